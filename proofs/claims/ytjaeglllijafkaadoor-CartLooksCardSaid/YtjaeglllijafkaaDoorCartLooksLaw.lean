/- CartLooks: every card and every score: the law, walked. -/
import Derived.Test.YtjaeglllijafkaaDoorProg
import Derived.Test.YtjaeglllijafkaaDoorCartRefCard
import Derived.Test.YtjaeglllijafkaaDoorCartRefScore
import Derived.Test.YtjaeglllijafkaaDoorCartOpen
import Derived.Laws.StructEq
namespace Go.Proofs.YtjaeglllijafkaaDoor
open Go.RowKit
set_option linter.unusedVariables false
set_option linter.unusedSimpArgs false

theorem eq_card (t : ByteArray) (a b c d e f : Int) (w : World) : (binOp .eql 27 (.agg #[.string t, .int .u8 a, .int .u8 b, .int .u8 c, .int .u16 d, .int .u16 e, .int .u16 f]) (.agg #[.string t, .int .u8 a, .int .u8 b, .int .u8 c, .int .u16 d, .int .u16 e, .int .u16 f])).run Tryd.prog w = .ok (.bool true) w := by
  rw [run_eql_struct, run_equalIn_agg w 9999 27 _ _ (by kernel_rfl) (by kernel_rfl)]
  simp only [Program.fieldsOf, Tryd.underlying27]
  simp [Op.eqFields, go_sem, Tryd.underlying9, Tryd.underlying5, Tryd.underlying25]
theorem wordN_bounds {xs : List Int} (hf : Fits .u8 xs) (A : Nat) (h : A + 1 < xs.length) : 0 ≤ wordN xs A ∧ wordN xs A ≤ 65535 := by
  have h1 := hf.u8 (show A < xs.length by omega)
  have h2 := hf.u8 h
  unfold wordN; omega
theorem trimB_size (t : ByteArray) : (trimB t).size ≤ t.size := by
  unfold trimB
  rw [extract_size _ _ (trimL_le _ _)]
  exact trimL_le _ _
theorem titleN_size (xs : List Int) (A : Nat) : (titleN xs A).size ≤ 21 := by
  have h := trimB_size (strOfNums (winI xs A 21))
  rw [strOfNums_size, winI_length] at h
  exact h
theorem noCard_fits : noCard.Fits := ⟨by decide, by decide, by decide, by decide, by decide, by decide, by decide⟩
theorem cardN_fits {xs : List Int} (hf : Fits .u8 xs) (A : Nat) (h : A + 64 ≤ xs.length) : (cardN xs A).Fits :=
  ⟨hf.u8 (by omega), hf.u8 (by omega), hf.u8 (by omega), wordN_bounds hf _ (by omega), wordN_bounds hf _ (by omega), wordN_bounds hf _ (by omega), by have := titleN_size xs A; show (titleN xs A).size ≤ _; omega⟩
theorem lookN_fits {xs : List Int} {n : Nat} (hf : Fits .u8 xs) (hn : xs.length = n) (l : Int) : (lookN xs n l).Fits := by
  unfold lookN
  split
  · exact noCard_fits
  · exact cardN_fits hf _ (by omega)
theorem owns_shape {w : World} {lo e s : Nat} {v : Value} {n : Nat} {xs : List Value} (h : w.ownsRow lo e s v n xs) : ∃ a c, v = .slice a n c := by
  rcases h.2 with ⟨h1, h2⟩ | ⟨g, c, cu, h1, -⟩
  · exact ⟨none, 0, by rw [h1, h2]⟩
  · exact ⟨_, c, h1⟩

set_option maxRecDepth 100000 in
set_option maxHeartbeats 8000000 in
theorem walk_looks (size by_ : Int) (pv : Value) (ps : List (Int × List Int)) (l : Int) (c : Card) (w : World) (hp : Patches w pv ps) (hpf : ∀ p ∈ ps, Fits .u8 p.2) (b0 : 0 ≤ by_) (b1 : by_ ≤ 255) (l0 : 0 ≤ l) (l1 : l ≤ 255) (hc : c.Fits) :
    Calls Tryd.prog 3 #[.agg #[.int .i64 size, .int .u8 by_, pv], .int .u8 l, c.v] w fun e w' => e = .returned (.bool true) ∧ Below w.heap.size w w' := by
  have HP := Lib.hid hp
  have HFX := Lib.hid (imageN_fits size by_ hpf)
  have HLX := Lib.hid (imageN_length size by_ ps)
  have hle := sizeN_le size
  obtain ⟨xs, hxs⟩ : ∃ xs, imageN size by_ ps = xs := ⟨_, rfl⟩
  have HXS := Lib.hid hxs
  rw [hxs] at HFX HLX
  obtain ⟨n, hn⟩ : ∃ n, sizeN size = n := ⟨_, rfl⟩
  rw [hn] at hle HLX
  have HN := Lib.hid hn
  have HKF := lookN_fits HFX.out HLX.out l
  have HSL := Lib.hid (fun W => score_walk (lookN xs n l) l W HKF l0 l1)
  have HRL := Lib.hid (fun W => refScore_walk (lookN xs n l) l W HKF)
  have HSC := Lib.hid (fun W => score_walk c l W hc l0 l1)
  have HRC := Lib.hid (fun W => refScore_walk c l W hc)
  have HLK := Lib.hid (fun (a : Option Addr) (k : Nat) W (hr : Row .u8 W (.slice a n k) xs) => look_any a n k l xs W hr HLX.out HFX.out (by omega) l0 l1)
  have HRK := Lib.hid (fun (a : Option Addr) (k : Nat) W (hr : Row .u8 W (.slice a n k) xs) => refLook_any a n k l xs W hr HLX.out HFX.out (by omega))
  clear hp hpf hxs hn hc HKF
  obtain ⟨er, her⟩ : ∃ er, lookE n l = er := ⟨_, rfl⟩
  rw [her] at HLK HRK
  obtain ⟨K, hK⟩ : ∃ K, lookN xs n l = K := ⟨_, rfl⟩
  rw [hK] at HSL HRL HLK HRK
  clear her hK
  obtain ⟨s1, hs1⟩ : ∃ s1, scoreN K l = s1 := ⟨_, rfl⟩
  rw [hs1] at HSL HRL
  obtain ⟨s2, hs2⟩ : ∃ s2, scoreN c l = s2 := ⟨_, rfl⟩
  rw [hs2] at HSC HRC
  clear hs1 hs2
  obtain ⟨ti, mo, ki, rz, ck, su, re⟩ := K
  obtain ⟨ti2, mo2, ki2, rz2, ck2, su2, re2⟩ := c
  have HEQ := Lib.hid (fun W => eq_card ti mo ki rz ck su re W)
  unfold Card.v at *
  simp only at *
  go_enter Tryd.func3, Tryd.ntmps3
  go_upto_region 1 with fail
  obtain ⟨wB, hwB⟩ : ∃ wB, (w.alloc (.cells #[.int .i64 size, .int .u8 by_, pv] 24)).alloc (.cells #[.string ti2, .int .u8 mo2, .int .u8 ki2, .int .u8 rz2, .int .u16 ck2, .int .u16 su2, .int .u16 re2] 27) = wB := ⟨_, rfl⟩
  have p0 : wB.cell? ⟨w.heap.size, 0, none⟩ = some (.int .i64 size) := by rw [← hwB]; simp [go_sem]
  have p1 : wB.cell? ⟨w.heap.size, 1, none⟩ = some (.int .u8 by_) := by rw [← hwB]; simp [go_sem]
  have p2 : wB.cell? ⟨w.heap.size, 2, none⟩ = some pv := by rw [← hwB]; simp [go_sem]
  have HCB := Lib.hid (show CardAt wB (w.heap.size + 1) ⟨ti2, mo2, ki2, rz2, ck2, su2, re2⟩ by
    rw [← hwB]
    exact ⟨by simp [go_sem], by simp [go_sem], by simp [go_sem], by simp [go_sem], by simp [go_sem], by simp [go_sem], by simp [go_sem]⟩)
  have HBB := Lib.hid (show Below w.heap.size w wB by rw [← hwB]; exact ((Below.refl _ w).alloc (Nat.le_refl _) _).alloc (by simp) _)
  have HZB := Lib.hid (show w.heap.size + 1 < wB.heap.size by rw [← hwB]; simp)
  rw [hwB]
  clear hwB
  go_upto_region 2 with (go_at_call 7; refine (image_any size by_ pv ps wB (HP.out.below HBB.out) b0 b1).mono ?_; rintro e w1 ⟨r1, rfl, ho, hb⟩; rw [HXS.out, HN.out] at ho; obtain ⟨a1, k1, rfl⟩ := owns_shape ho)
  have HC1 := Lib.hid (HCB.out.keep hb HZB.out)
  have HB1 := Lib.hid (HBB.out.trans (hb.mono (by have := HZB.out; omega)))
  have HZ1 := Lib.hid (Nat.lt_of_lt_of_le HZB.out hb.size)
  have HR1 := Lib.hid (Row.owned ho).1
  clear p0 p1 p2 HCB HBB HZB ho hb
  go_upto_region 3 with (go_at_call 8; refine (HRK.out a1 k1 _ HR1.out).mono ?_; rintro e w2 ⟨rfl, hb⟩)
  have ha := (Below.refl w2.heap.size w2).alloc (Nat.le_refl _) (.cells #[.string ti, .int .u8 mo, .int .u8 ki, .int .u8 rz, .int .u16 ck, .int .u16 su, .int .u16 re] 27)
  have hb2 := hb.trans (ha.mono hb.size)
  have HC2 := Lib.hid (HC1.out.keep hb2 HZ1.out)
  have HB2 := Lib.hid (HB1.out.trans (hb2.mono (by have := HZ1.out; omega)))
  have HR2 := Lib.hid (HR1.out.below hb2)
  have HQ2 := Lib.hid (card_boxed w2 ⟨ti, mo, ki, rz, ck, su, re⟩)
  have HZ2 := Lib.hid (show w.heap.size + 1 < w2.heap.size ∧ w2.heap.size < (w2.alloc (.cells #[.string ti, .int .u8 mo, .int .u8 ki, .int .u8 rz, .int .u16 ck, .int .u16 su, .int .u16 re] 27)).heap.size from ⟨Nat.lt_of_lt_of_le HZ1.out hb.size, by simp⟩)
  obtain ⟨W2, hW2⟩ : ∃ W2, w2.alloc (.cells #[.string ti, .int .u8 mo, .int .u8 ki, .int .u8 rz, .int .u16 ck, .int .u16 su, .int .u16 re] 27) = W2 := ⟨_, rfl⟩
  simp only at HQ2
  rw [hW2] at HC2 HB2 HR2 HQ2 HZ2 ⊢
  obtain ⟨Q, hQ⟩ : ∃ Q, w2.heap.size = Q := ⟨_, rfl⟩
  rw [hQ] at HQ2 HZ2 ⊢
  clear ha hb hb2 hW2 hQ HC1 HB1 HR1 HZ1
  go_upto_region 4 with (go_at_call 9; refine (HLK.out a1 k1 _ HR2.out).mono ?_; rintro e w3 ⟨rfl, hb⟩)
  have ha := (Below.refl w3.heap.size w3).alloc (Nat.le_refl _) (.cells #[.string ti, .int .u8 mo, .int .u8 ki, .int .u8 rz, .int .u16 ck, .int .u16 su, .int .u16 re] 27)
  have hb2 := hb.trans (ha.mono hb.size)
  have HC3 := Lib.hid (HC2.out.keep hb2 (Nat.lt_trans HZ2.out.1 HZ2.out.2))
  have HQ3 := Lib.hid (HQ2.out.keep hb2 HZ2.out.2)
  have HB3 := Lib.hid (HB2.out.trans (hb2.mono (by have := HZ2.out; omega)))
  have HR3 := Lib.hid (card_boxed w3 ⟨ti, mo, ki, rz, ck, su, re⟩)
  have HZ3 := Lib.hid (show w.heap.size + 1 < (w3.alloc (.cells #[.string ti, .int .u8 mo, .int .u8 ki, .int .u8 rz, .int .u16 ck, .int .u16 su, .int .u16 re] 27)).heap.size ∧ Q < (w3.alloc (.cells #[.string ti, .int .u8 mo, .int .u8 ki, .int .u8 rz, .int .u16 ck, .int .u16 su, .int .u16 re] 27)).heap.size ∧ w3.heap.size < (w3.alloc (.cells #[.string ti, .int .u8 mo, .int .u8 ki, .int .u8 rz, .int .u16 ck, .int .u16 su, .int .u16 re] 27)).heap.size from by
    have h1 := hb.size
    have h2 := HZ2.out
    rw [World.size_alloc]
    omega)
  obtain ⟨W3, hW3⟩ : ∃ W3, w3.alloc (.cells #[.string ti, .int .u8 mo, .int .u8 ki, .int .u8 rz, .int .u16 ck, .int .u16 su, .int .u16 re] 27) = W3 := ⟨_, rfl⟩
  simp only at HR3
  rw [hW3] at HC3 HQ3 HB3 HR3 HZ3 ⊢
  obtain ⟨R, hR⟩ : ∃ R, w3.heap.size = R := ⟨_, rfl⟩
  rw [hR] at HR3 HZ3 ⊢
  clear ha hb hb2 hW3 hR HC2 HB2 HR2 HQ2 HZ2
  have KS := Lib.hid (fun (W : World) (hW : Below W3.heap.size W3 W) => show (fun w' => w'.cell? ⟨w.heap.size + 1, 0, none⟩ = some (.string ti2) ∧ w'.cell? ⟨w.heap.size + 1, 1, none⟩ = some (.int .u8 mo2) ∧ w'.cell? ⟨w.heap.size + 1, 2, none⟩ = some (.int .u8 ki2) ∧ w'.cell? ⟨w.heap.size + 1, 3, none⟩ = some (.int .u8 rz2) ∧ w'.cell? ⟨w.heap.size + 1, 4, none⟩ = some (.int .u16 ck2) ∧ w'.cell? ⟨w.heap.size + 1, 5, none⟩ = some (.int .u16 su2) ∧ w'.cell? ⟨w.heap.size + 1, 6, none⟩ = some (.int .u16 re2) ∧ w'.cell? ⟨Q, 0, none⟩ = some (.string ti) ∧ w'.cell? ⟨Q, 1, none⟩ = some (.int .u8 mo) ∧ w'.cell? ⟨Q, 2, none⟩ = some (.int .u8 ki) ∧ w'.cell? ⟨Q, 3, none⟩ = some (.int .u8 rz) ∧ w'.cell? ⟨Q, 4, none⟩ = some (.int .u16 ck) ∧ w'.cell? ⟨Q, 5, none⟩ = some (.int .u16 su) ∧ w'.cell? ⟨Q, 6, none⟩ = some (.int .u16 re) ∧ w'.cell? ⟨R, 0, none⟩ = some (.string ti) ∧ w'.cell? ⟨R, 1, none⟩ = some (.int .u8 mo) ∧ w'.cell? ⟨R, 2, none⟩ = some (.int .u8 ki) ∧ w'.cell? ⟨R, 3, none⟩ = some (.int .u8 rz) ∧ w'.cell? ⟨R, 4, none⟩ = some (.int .u16 ck) ∧ w'.cell? ⟨R, 5, none⟩ = some (.int .u16 su) ∧ w'.cell? ⟨R, 6, none⟩ = some (.int .u16 re)) W from by
    have x1 := HC3.out.keep hW HZ3.out.1
    have x2 := HQ3.out.keep hW HZ3.out.2.1
    have x3 := HR3.out.keep hW HZ3.out.2.2
    exact ⟨x1.c0, x1.c1, x1.c2, x1.c3, x1.c4, x1.c5, x1.c6, x2.c0, x2.c1, x2.c2, x2.c3, x2.c4, x2.c5, x2.c6, x3.c0, x3.c1, x3.c2, x3.c3, x3.c4, x3.c5, x3.c6⟩)
  have HW := Lib.hid (show Below W3.heap.size W3 W3.drew from (Below.refl _ _).drew)
  have heq := HEQ.out
  go_region_held3 (fun w' => w'.cell? ⟨w.heap.size + 1, 0, none⟩ = some (.string ti2) ∧ w'.cell? ⟨w.heap.size + 1, 1, none⟩ = some (.int .u8 mo2) ∧ w'.cell? ⟨w.heap.size + 1, 2, none⟩ = some (.int .u8 ki2) ∧ w'.cell? ⟨w.heap.size + 1, 3, none⟩ = some (.int .u8 rz2) ∧ w'.cell? ⟨w.heap.size + 1, 4, none⟩ = some (.int .u16 ck2) ∧ w'.cell? ⟨w.heap.size + 1, 5, none⟩ = some (.int .u16 su2) ∧ w'.cell? ⟨w.heap.size + 1, 6, none⟩ = some (.int .u16 re2) ∧ w'.cell? ⟨Q, 0, none⟩ = some (.string ti) ∧ w'.cell? ⟨Q, 1, none⟩ = some (.int .u8 mo) ∧ w'.cell? ⟨Q, 2, none⟩ = some (.int .u8 ki) ∧ w'.cell? ⟨Q, 3, none⟩ = some (.int .u8 rz) ∧ w'.cell? ⟨Q, 4, none⟩ = some (.int .u16 ck) ∧ w'.cell? ⟨Q, 5, none⟩ = some (.int .u16 su) ∧ w'.cell? ⟨Q, 6, none⟩ = some (.int .u16 re) ∧ w'.cell? ⟨R, 0, none⟩ = some (.string ti) ∧ w'.cell? ⟨R, 1, none⟩ = some (.int .u8 mo) ∧ w'.cell? ⟨R, 2, none⟩ = some (.int .u8 ki) ∧ w'.cell? ⟨R, 3, none⟩ = some (.int .u8 rz) ∧ w'.cell? ⟨R, 4, none⟩ = some (.int .u16 ck) ∧ w'.cell? ⟨R, 5, none⟩ = some (.int .u16 su) ∧ w'.cell? ⟨R, 6, none⟩ = some (.int .u16 re)) (exact KS.out _ (by exact HW.out)) (first | (go_at_call 10; first | ((with_reducible refine Calls.mono (HSL.out _) ?_); rintro e w' ⟨rfl, hb⟩; have HW := Lib.hid (below_step HW.out HW.out.size hb); clear hb) | ((with_reducible refine Calls.mono (HSC.out _) ?_); rintro e w' ⟨rfl, hb⟩; have HW := Lib.hid (below_step HW.out HW.out.size hb); clear hb)) | (go_at_call 11; first | ((with_reducible refine Calls.mono (HRL.out _) ?_); rintro e w' ⟨rfl, hb⟩; have HW := Lib.hid (below_step HW.out HW.out.size hb); clear hb) | ((with_reducible refine Calls.mono (HRC.out _) ?_); rintro e w' ⟨rfl, hb⟩; have HW := Lib.hid (below_step HW.out HW.out.size hb); clear hb)))
  go_wp2_with fail
  go_ret
  exact ⟨rfl, HB3.out.trans (HW.out.mono HB3.out.size)⟩
end Go.Proofs.YtjaeglllijafkaaDoor
