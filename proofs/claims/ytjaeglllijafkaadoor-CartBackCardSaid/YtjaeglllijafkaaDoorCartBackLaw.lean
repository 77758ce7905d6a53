/- CartBack: a cartridge that is made is read again as itself: the law, walked. -/
import Derived.Test.YtjaeglllijafkaaDoorProg
import Derived.Test.YtjaeglllijafkaaDoorCartBlank
namespace Go.Proofs.YtjaeglllijafkaaDoor
open Go.RowKit
set_option linter.unusedVariables false
set_option linter.unusedSimpArgs false

theorem cart_put2 {W : World} {P : Nat} {l ch : Int} {rv : Value} {ram : Int} {ti : ByteArray} {rs : Int} {fa : Bool} {sg : Value} (h : CartAt W P l ch rv ram ti rs fa sg) (u : Value) : CartAt (W.setCell ⟨P, 2, none⟩ u) P l ch u ram ti rs fa sg := by
  have ne : ∀ i, i ≠ 2 → (W.setCell ⟨P, 2, none⟩ u).cell? ⟨P, i, none⟩ = W.cell? ⟨P, i, none⟩ := fun i hi => World.cell?_setCell_other W ⟨P, 2, none⟩ ⟨P, i, none⟩ u (fun e => by injection e with _ e; exact hi e.symm)
  have h2 := h.c2
  exact ⟨(ne 0 (by decide)).trans h.c0, (ne 1 (by decide)).trans h.c1, by simp [go_sem, h2], (ne 3 (by decide)).trans h.c3, (ne 4 (by decide)).trans h.c4, (ne 5 (by decide)).trans h.c5, (ne 6 (by decide)).trans h.c6, (ne 7 (by decide)).trans h.c7⟩
theorem addr_add (b o j : Nat) : (⟨b, o, none⟩ : Addr).add j = ⟨b, o + j, none⟩ := by
  unfold Addr.add
  split
  · subst_vars; simp
  · simp
theorem cell_stays {w w' : World} {p : Addr} {v : Value} (hc : w.cell? p = some v) (hb : Below w.heap.size w w') : w'.cell? p = some v := by
  have h : p.block < w.heap.size := by
    rcases Nat.lt_or_ge p.block w.heap.size with h | h
    · exact h
    · simp [World.cell?, Array.getElem?_eq_none h] at hc
  exact (hb.cell h).trans hc
theorem owns_far {w w' : World} {B lo e s : Nat} {G cp n : Nat} {xs : List Value} (h : w.ownsRow lo e s (.slice (some ⟨G, 0, none⟩) n cp) n xs) (hb : Below B w w') (hG : G < B) : w'.ownsRow lo e s (.slice (some ⟨G, 0, none⟩) n cp) n xs := by
  refine ⟨h.1, h.2.elim Or.inl (fun ⟨g, cap, cu, h1, h2, h3, r⟩ => Or.inr ⟨g, cap, cu, h1, h2, ?_, r⟩)⟩
  injection h1 with e1
  injection e1 with e2
  injection e2 with e3
  rw [hb.block g (by rw [← e3]; exact hG)]
  exact h3
theorem row_far {w w' : World} {B lo n : Nat} {a : Option Addr} {c : Nat} {xs : List Int} (h : w.ownsRow lo 5 1 (.slice a n c) n (xs.map (Value.int .u8))) (h0 : 0 < n) (hY : ∀ g c', Value.slice a n c = .slice (some ⟨g, 0, none⟩) n c' → g < B) (hb : Below B w w') : Row .u8 w' (.slice a n c) xs := by
  rcases h.2 with ⟨-, hn⟩ | ⟨g, cap, cu, hv, -⟩
  · omega
  · rw [hv] at h ⊢
    exact (Row.owned (owns_far h hb (hY g cap hv))).1
theorem froz_set (W : World) (p q : Addr) (u : Value) : (W.setCell p u).frozen? q = W.frozen? q := by simp [go_sem]

set_option maxRecDepth 100000 in
set_option maxHeartbeats 4000000 in
theorem walk_back (hread : ReadSays) (size by_ : Int) (pv : Value) (ps : List (Int × List Int)) (l ch : Int) (r0 : Value) (ram : Int) (ti : ByteArray) (rs : Int) (fa : Bool) (sa : Option Addr) (sn sc : Nat) (w : World) (hp : Patches w pv ps) (hpf : ∀ p ∈ ps, Fits .u8 p.2) (b0 : 0 ≤ by_) (b1 : by_ ≤ 255) (l0 : 0 ≤ l) (l1 : l ≤ 255) (ch0 : 0 ≤ ch) (hs : ti.size ≤ 9223372036854775807) (rs0 : 0 ≤ rs) (rs1 : rs ≤ 65535) :
    Calls Tryd.prog 5 #[.agg #[.int .i64 size, .int .u8 by_, pv], .agg #[.int .u8 l, .int .u8 ch, r0, .int .i64 ram, .string ti, .int .u16 rs, .bool fa, .slice sa sn sc]] w fun e w' => e = .returned (.bool true) ∧ Below w.heap.size w w' := by
  have HBLK := Lib.hid (fun W => blank_walk hread W)
  have HP := Lib.hid hp
  have HFX := Lib.hid (imageN_fits size by_ hpf)
  have HLX := Lib.hid (imageN_length size by_ ps)
  have hle := sizeN_le size
  obtain ⟨xs, hxs⟩ : ∃ xs, imageN size by_ ps = xs := ⟨_, rfl⟩
  have HXS := Lib.hid hxs
  rw [hxs] at HFX HLX
  obtain ⟨n, hn⟩ : ∃ n, sizeN size = n := ⟨_, rfl⟩
  rw [hn] at hle HLX
  have HN := Lib.hid hn
  have HREAD := Lib.hid hread
  have HMK := Lib.hid (fun ra rc s1 s2 s3 W (hr : Row .u8 W (.slice ra n rc) xs) => make_any l ch ra n rc ram ti rs fa s1 s2 s3 W l0 l1 hs rs0 rs1 xs hr HLX.out)
  obtain ⟨i0, hi, hz0, hz1, hz2⟩ := info_parts Tryd.infoU8c
  have hi' := Lib.hid hi
  have hz0' := Lib.hid hz0
  have hz1' := Lib.hid hz1
  have hz2' := Lib.hid hz2
  have HMK8 := Lib.hid (show i0.bytes * 8192 ≤ 281474976710656 by rw [hz2]; decide)
  have HMK5 := Lib.hid (show i0.bytes * 512 ≤ 281474976710656 by rw [hz2]; decide)
  obtain ⟨ss, hss⟩ : ∃ ss : List Int, List.replicate 8192 0 = ss := ⟨_, rfl⟩
  have HM8 := Lib.hid (show (madeCells (Value.int .u8 0).cells (8192 * 1)).toList = ss.map (Value.int .u8) by
    rw [← hss, Nat.mul_one, show (Value.int IntKind.u8 0).cells = #[Value.int .u8 0] from rfl, toList_madeCells_one, List.map_replicate])
  have HL8 := Lib.hid (show ss.length = 8192 by rw [← hss, List.length_replicate])
  obtain ⟨zs, hzs⟩ : ∃ zs : List Int, List.replicate 512 0 = zs := ⟨_, rfl⟩
  have HM5 := Lib.hid (show (madeCells (Value.int .u8 0).cells (512 * 1)).toList = zs.map (Value.int .u8) by
    rw [← hzs, Nat.mul_one, show (Value.int IntKind.u8 0).cells = #[Value.int .u8 0] from rfl, toList_madeCells_one, List.map_replicate])
  have HL5 := Lib.hid (show zs.length = 512 by rw [← hzs, List.length_replicate])
  have HZF := Lib.hid (show Fits .u8 zs by rw [← hzs]; exact zerosF _)
  clear hp hpf hxs hn hread hi hz0 hz1 hz2 hss hzs
  go_enter Tryd.func5, Tryd.ntmps5
  go_upto_region 1 with fail
  obtain ⟨wB, hwB⟩ : ∃ wB, (w.alloc (.cells #[.int .i64 size, .int .u8 by_, pv] 24)).alloc (.cells #[.int .u8 l, .int .u8 ch, r0, .int .i64 ram, .string ti, .int .u16 rs, .bool fa, .slice sa sn sc] 36) = wB := ⟨_, rfl⟩
  have p0 : wB.cell? ⟨w.heap.size, 0, none⟩ = some (.int .i64 size) := by rw [← hwB]; simp [go_sem]
  have p1 : wB.cell? ⟨w.heap.size, 1, none⟩ = some (.int .u8 by_) := by rw [← hwB]; simp [go_sem]
  have p2 : wB.cell? ⟨w.heap.size, 2, none⟩ = some pv := by rw [← hwB]; simp [go_sem]
  have HC := Lib.hid (show CartAt wB (w.heap.size + 1) l ch r0 ram ti rs fa (.slice sa sn sc) by
    rw [← hwB]
    exact ⟨by simp [go_sem], by simp [go_sem], by simp [go_sem], by simp [go_sem], by simp [go_sem], by simp [go_sem], by simp [go_sem], by simp [go_sem]⟩)
  have HF := Lib.hid (show ∀ j, wB.frozen? ⟨w.heap.size + 1, j, none⟩ = false from fun j => by rw [← hwB]; simp [go_sem])
  have HBB := Lib.hid (show Below w.heap.size w wB by rw [← hwB]; exact ((Below.refl _ w).alloc (Nat.le_refl _) _).alloc (by simp) _)
  have HZB := Lib.hid (show w.heap.size + 1 < wB.heap.size by rw [← hwB]; simp)
  rw [hwB]
  obtain ⟨P, hPP⟩ : ∃ P, w.heap.size + 1 = P := ⟨_, rfl⟩
  have HPP := Lib.hid (show w.heap.size ≤ P by omega)
  have HI := Lib.hid (And.intro p0 (And.intro p1 p2))
  obtain ⟨I, hII⟩ : ∃ I, w.heap.size = I := ⟨_, rfl⟩
  have HIP := Lib.hid (show I < P by omega)
  rw [hPP] at HC HF HZB ⊢
  rw [hII] at HI p0 p1 p2
  have HII := Lib.hid hII
  rw [hII]
  clear hwB hPP hII
  go_upto_region 2 with (go_at_call 18; refine (HBLK.out _).mono ?_; rintro e w1 ⟨rfl, hb⟩; have p0 := (hb.cell (p := ⟨I, 0, none⟩) (Nat.lt_trans HIP.out HZB.out)).trans HI.out.1; have p1 := (hb.cell (p := ⟨I, 1, none⟩) (Nat.lt_trans HIP.out HZB.out)).trans HI.out.2.1; have p2 := (hb.cell (p := ⟨I, 2, none⟩) (Nat.lt_trans HIP.out HZB.out)).trans HI.out.2.2; have HB1 := Lib.hid (HBB.out.trans (hb.mono HBB.out.size)); have HC1 := Lib.hid (HC.out.keep hb HZB.out); have HF1 := Lib.hid (show ∀ j, w1.frozen? ⟨P, j, none⟩ = false from fun j => (hb.frozen (p := ⟨P, j, none⟩) HZB.out).trans (HF.out j)); have HZ1 := Lib.hid (Nat.lt_of_lt_of_le HZB.out hb.size); clear hb)
  clear HC HF HBB HZB HI HBLK
  have c2 := HC1.out.c2
  have f2 := HF1.out 2
  go_upto_region 4 with (go_at_call 7; refine (image_any size by_ pv ps _ (HP.out.below (by exact HB1.out)) b0 b1).mono ?_; rintro e w2 ⟨r1, rfl, ho, hb⟩; rw [HXS.out, HN.out] at ho; have c2 := (hb.cell (p := ⟨P, 2, none⟩) HZ1.out).trans c2; have f2 := (hb.frozen (p := ⟨P, 2, none⟩) HZ1.out).trans f2; obtain ⟨a1, k1, rfl⟩ := owns_sliced ho)
  have HO2 := Lib.hid (owns_under ho (p := ⟨P, 2, none⟩) HZ1.out (.slice a1 n k1))
  have HC2 := Lib.hid (cart_put2 (HC1.out.keep hb HZ1.out) (.slice a1 n k1))
  have HF2 := Lib.hid (show ∀ j, (w2.setCell ⟨P, 2, none⟩ (.slice a1 n k1)).frozen? ⟨P, j, none⟩ = false from fun j => (froz_set _ _ _ _).trans ((hb.frozen (p := ⟨P, j, none⟩) HZ1.out).trans (HF1.out j)))
  have HB2 := Lib.hid ((HB1.out.trans (hb.mono HB1.out.size)).setCell (p := ⟨P, 2, none⟩) HPP.out (.slice a1 n k1))
  have HZ2 := Lib.hid (show P < (w2.setCell ⟨P, 2, none⟩ (.slice a1 n k1)).heap.size by rw [World.size_setCell]; exact Nat.lt_of_lt_of_le HZ1.out hb.size)
  obtain ⟨W2, hW2⟩ : ∃ W2, w2.setCell ⟨P, 2, none⟩ (.slice a1 n k1) = W2 := ⟨_, rfl⟩
  rw [hW2] at HO2 HC2 HF2 HB2 HZ2 ⊢
  clear hW2 ho hb c2 f2 HC1 HF1 HB1 HZ1 p0 p1 p2
  have c0 := HC2.out.c0
  have c1 := HC2.out.c1
  have c2 := HC2.out.c2
  have c3 := HC2.out.c3
  have c4 := HC2.out.c4
  have c5 := HC2.out.c5
  have c6 := HC2.out.c6
  have c7 := HC2.out.c7
  obtain ⟨cd, hcd⟩ : ∃ cd, codeN l ch n ram ti rs = cd := ⟨_, rfl⟩
  have HCD := Lib.hid hcd
  rw [hcd] at HMK
  clear hcd
  go_upto_region 5 with (go_at_call 19; refine (HMK.out _ _ _ _ _ _ (Row.owned HO2.out).1).mono ?_; rintro e w3 ⟨r, rfl, ho, hb⟩)
  have HC3 := Lib.hid (HC2.out.keep hb HZ2.out)
  have HF3 := Lib.hid (show ∀ j, w3.frozen? ⟨P, j, none⟩ = false from fun j => (hb.frozen (p := ⟨P, j, none⟩) HZ2.out).trans (HF2.out j))
  have HB3 := Lib.hid (HB2.out.trans (hb.mono HB2.out.size))
  have HZ3 := Lib.hid (Nat.lt_of_lt_of_le HZ2.out hb.size)
  have HO3 := Lib.hid (owns_lo ho (Nat.succ_le_of_lt HZ2.out))
  clear ho hb c0 c1 c2 c3 c4 c5 c6 c7 HO2 HC2 HF2 HB2 HZ2 HMK
  cases hbad : badN l ch n ram ti rs
  case true =>
    have e0 : cd = 2 := by rw [← HCD.out]; unfold codeN; rw [hbad]; rfl
    subst e0
    clear hbad
    go_wp2_with fail
    go_ret
    exact ⟨rfl, HB3.out⟩
  case false =>
    have e0 : cd = 0 := by rw [← HCD.out]; unfold codeN; rw [hbad]; rfl
    subst e0
    have g := good_of hbad
    have hout : outN l ch n ram ti rs fa xs = madeN xs (placeN l).toNat ti l fa ch ram rs := by unfold outN; rw [hbad]; rfl
    rw [hout, madeN_length, HLX.out] at HO3
    have HGD := Lib.hid g
    have hmf := made_fits xs HFX.out (placeN l).toNat ti l fa ch ram rs g.rz rs0 rs1
    have hml := (madeN_length xs (placeN l).toNat ti l fa ch ram rs).trans HLX.out
    have hn1 := g.n1
    have hn0 := g.n0
    have gl1 := g.l1
    have gl3 := g.l3
    have HLK := Lib.hid (fun a c l' W (hr : Row .u8 W (.slice a n c) (madeN xs (placeN l).toNat ti l fa ch ram rs)) (h0 : 0 ≤ l') (h1 : l' ≤ 255) => look_any a n c l' _ W hr hml hmf (by omega) h0 h1)
    have HKF := Lib.hid (fun l' => lookN_fits hmf hml l')
    have HL0 := Lib.hid (fun a c W hr => HLK.out a c l W hr l0 l1)
    have hcard := g.card xs HLX.out fa rs1
    have HSC := Lib.hid (fun W => score_walk (cardM xs l ch ram ti rs fa) l W (by rw [← hcard]; exact HKF.out l) l0 l1)
    rw [g.score xs fa trivial] at HSC
    rw [g.look, hcard] at HL0
    have HRD := Lib.hid (fun (ha : Alone (madeN xs (placeN l).toNat ti l fa ch ram rs) n l) P hP hPF ss hss hok a N c hN sa sc W h1 h2 => read_made HREAD.out g xs HLX.out HFX.out fa ch0 rs1 ha P ss hP hPF 8192 hss (by decide) hok a N c hN sa sc W h1 h2)
    have HWG := Lib.hid (fun (hch : ch = 1) (ha : Alone (madeN xs (placeN l).toNat ti l fa ch ram rs) n l) ss q hq hq2 hno a c sa sc W h1 h2 => read_wrong1 HREAD.out hch g xs HLX.out HFX.out fa rs1 ha ss q hq hq2 hno a c sa sc W h1 h2)
    obtain ⟨M, hM⟩ : ∃ M, madeN xs (placeN l).toNat ti l fa ch ram rs = M := ⟨_, rfl⟩
    rw [hM] at HO3 HLK HL0 hml HKF hmf
    simp only [hM] at HRD HWG
    have HML := Lib.hid hml
    have HMF := Lib.hid hmf
    clear hmf hml hM hcard hbad hout g HREAD
    obtain ⟨K, hK⟩ : ∃ K, cardM xs l ch ram ti rs fa = K := ⟨_, rfl⟩
    rw [hK] at HL0 HSC
    clear hK
    obtain ⟨kt, km, kk, kr, kc, ks, ke⟩ := K
    unfold Card.v at HL0 HSC
    simp only at HL0 HSC
    have c0 := HC3.out.c0
    obtain ⟨aM, cM, rfl⟩ := owns_sliced HO3.out
    have HR3 := Lib.hid (Row.owned HO3.out).1
    go_upto_region 7 with fail
    go_upto_region 8 with (go_at_call 9; refine (HL0.out _ _ _ (by exact HR3.out)).mono ?_; rintro e w4 ⟨rfl, hb⟩)
    have ha := (Below.refl w4.heap.size w4).alloc (Nat.le_refl _) (.cells #[.string kt, .int .u8 km, .int .u8 kk, .int .u8 kr, .int .u16 kc, .int .u16 ks, .int .u16 ke] 27)
    have hb2 := hb.trans (ha.mono hb.size)
    have HC4 := Lib.hid (HC3.out.keep hb2 HZ3.out)
    have HF4 := Lib.hid (show ∀ j, (w4.alloc (.cells #[.string kt, .int .u8 km, .int .u8 kk, .int .u8 kr, .int .u16 kc, .int .u16 ks, .int .u16 ke] 27)).frozen? ⟨P, j, none⟩ = false from fun j => (hb2.frozen (p := ⟨P, j, none⟩) HZ3.out).trans (HF3.out j))
    have HB4 := Lib.hid (HB3.out.trans (hb2.mono HB3.out.size))
    have HO4 := Lib.hid (owns_kept HO3.out hb2)
    have HK4 := Lib.hid (card_boxed w4 ⟨kt, km, kk, kr, kc, ks, ke⟩)
    have HZ4 := Lib.hid (show P < (w4.alloc (.cells #[.string kt, .int .u8 km, .int .u8 kk, .int .u8 kr, .int .u16 kc, .int .u16 ks, .int .u16 ke] 27)).heap.size from Nat.lt_of_lt_of_le HZ3.out hb2.size)
    obtain ⟨W4, hW4⟩ : ∃ W4, w4.alloc (.cells #[.string kt, .int .u8 km, .int .u8 kk, .int .u8 kr, .int .u16 kc, .int .u16 ks, .int .u16 ke] 27) = W4 := ⟨_, rfl⟩
    simp only at HK4
    rw [hW4] at HC4 HF4 HB4 HO4 HK4 HZ4 ⊢
    obtain ⟨Q, hQ⟩ : ∃ Q, w4.heap.size = Q := ⟨_, rfl⟩
    rw [hQ] at HK4 ⊢
    clear ha hb hb2 hW4 hQ HC3 HF3 HB3 HO3 HR3 HZ3 c0
    have c0 := HC4.out.c0
    have k0 := HK4.out.c0
    have k1 := HK4.out.c1
    have k2 := HK4.out.c2
    have k3 := HK4.out.c3
    have k4 := HK4.out.c4
    have k5 := HK4.out.c5
    have k6 := HK4.out.c6
    simp only at k0 k1 k2 k3 k4 k5 k6
    go_upto_region 10 with (go_at_call 10; refine (HSC.out _).mono ?_; rintro e w5 ⟨rfl, hb⟩)
    have HC5 := Lib.hid (HC4.out.keep hb HZ4.out)
    have HF5 := Lib.hid (show ∀ j, w5.frozen? ⟨P, j, none⟩ = false from fun j => (hb.frozen (p := ⟨P, j, none⟩) HZ4.out).trans (HF4.out j))
    have HB5 := Lib.hid (HB4.out.trans (hb.mono HB4.out.size))
    have HO5 := Lib.hid (owns_kept HO4.out hb)
    have HZ5 := Lib.hid (Nat.lt_of_lt_of_le HZ4.out hb.size)
    clear hb HC4 HF4 HB4 HO4 HZ4 HK4 c0 k0 k1 k2 k3 k4 k5 k6 HSC HL0
    go_upto_region 11 with fail
    go_loopw [8] (fun s8 wr => ∃ k : Nat, 1 ≤ k ∧ k ≤ 4 ∧ s8 = .int .u8 (k : Int) ∧ Hid (Below w5.heap.size w5 wr) ∧ Hid (∀ m : Nat, 1 ≤ m → m < k → (m : Int) ≠ l → lookE n m = 0 → scoreN (lookN M n m) m < 9)) (fun s8 _ => 4 - (intOf s8).toNat)
    case atStart => exact ⟨1, Nat.le_refl _, by omega, rfl, Lib.hid (Below.refl _ _), Lib.hid (fun m h1 h2 => by omega)⟩
    case round =>
      obtain ⟨k, hk1, hk4, rfl, hB, hA⟩ := hrel
      by_cases hk : k < 4
      · have HLC := Lib.hid (show lookE n k = 5 ∨ lookE n k = 0 by
          rcases lookE_cases n k (by omega) (by omega) with ⟨h, -⟩ | ⟨-, h⟩
          · omega
          · exact h)
        have HK := Lib.hid (HLK.out aM cM k wr (Row.owned (owns_kept HO5.out hB.out)).1 (by omega) (by omega))
        have HS1 := Lib.hid (fun W => score_walk (lookN M n k) k W (HKF.out k) (by omega) (by omega))
        have HSB1 := scoreN_bounds (lookN M n k) k
        have HNX := Lib.hid (show ((k : Int) ≠ l → lookE n k = 0 → scoreN (lookN M n k) k < 9) → ∀ m : Nat, 1 ≤ m → m < k + 1 → (m : Int) ≠ l → lookE n m = 0 → scoreN (lookN M n m) m < 9 from fun h m h1 h2 h3 h4 => by
          by_cases e : m = k
          · subst e; exact h h3 h4
          · exact hA.out m h1 (by omega) h3 h4)
        obtain ⟨er, her⟩ : ∃ er, lookE n k = er := ⟨_, rfl⟩
        rw [her] at HK HLC HNX
        obtain ⟨s1, hs1⟩ : ∃ s1, scoreN (lookN M n k) k = s1 := ⟨_, rfl⟩
        rw [hs1] at HS1 HSB1 HNX
        obtain ⟨K, hK⟩ : ∃ K, lookN M n k = K := ⟨_, rfl⟩
        rw [hK] at HK HS1
        clear her hs1 hK
        obtain ⟨ti3, mo3, ki3, rz3, ck3, su3, re3⟩ := K
        unfold Card.v at HK HS1
        simp only at HK HS1
        have i1 : (k : Int) < 4 := by omega
        go_upto_region 14 with (go_at_call 9; refine HK.out.mono ?_; rintro e w6 ⟨rfl, hb⟩)
        have ha := (Below.refl w6.heap.size w6).alloc (Nat.le_refl _) (.cells #[.string ti3, .int .u8 mo3, .int .u8 ki3, .int .u8 rz3, .int .u16 ck3, .int .u16 su3, .int .u16 re3] 27)
        have hb2 := hb.trans (ha.mono hb.size)
        have HB6 := Lib.hid (below_step hB.out hB.out.size hb2)
        have HE6 := Lib.hid (card_boxed w6 ⟨ti3, mo3, ki3, rz3, ck3, su3, re3⟩)
        obtain ⟨W6, hW6⟩ : ∃ W6, w6.alloc (.cells #[.string ti3, .int .u8 mo3, .int .u8 ki3, .int .u8 rz3, .int .u16 ck3, .int .u16 su3, .int .u16 re3] 27) = W6 := ⟨_, rfl⟩
        simp only at HE6
        rw [hW6] at HB6 HE6 ⊢
        obtain ⟨E, hE⟩ : ∃ E, w6.heap.size = E := ⟨_, rfl⟩
        rw [hE] at HE6 ⊢
        clear ha hb hb2 hW6 hE hB hA HK
        have e0 := HE6.out.c0
        have e1 := HE6.out.c1
        have e2 := HE6.out.c2
        have e3 := HE6.out.c3
        have e4 := HE6.out.c4
        have e5 := HE6.out.c5
        have e6 := HE6.out.c6
        simp only at e0 e1 e2 e3 e4 e5 e6
        have c0 := (HC5.out.keep HB6.out HZ5.out).c0
        by_cases hl : (k : Int) = l
        · have t1 : ((k : Int) != l) = false := by rw [bne_eq_false_iff_eq]; exact hl
          have HA6 := Lib.hid (HNX.out (fun h => absurd hl h))
          clear hl HNX
          go_wp2
          go_roundw
          case rel => exact ⟨k + 1, by omega, by omega, by go_num, HB6, HA6⟩
          case measure => simp [intOf]; omega
        · have t1 : ((k : Int) != l) = true := by rw [bne_iff_ne]; exact hl
          have HL := Lib.hid hl
          clear hl
          rcases HLC.out with he | he
          · subst he
            have HA6 := Lib.hid (HNX.out (fun _ h => absurd h (by decide)))
            clear HNX
            go_wp2
            go_roundw
            case rel => exact ⟨k + 1, by omega, by omega, by go_num, HB6, HA6⟩
            case measure => simp [intOf]; omega
          · subst he
            by_cases hs : 9 ≤ s1
            · have t2 : s1 ≥ 9 := hs
              clear hs
              go_wp2_with (go_at_call 10; refine (HS1.out _).mono ?_; rintro e w7 ⟨rfl, hb⟩; have HB7 := Lib.hid (hb); clear hb)
              go_ret
              have h6 := HB5.out.trans (HB6.out.mono HB5.out.size)
              exact ⟨rfl, h6.trans (HB7.out.mono h6.size)⟩
            · have HA6 := Lib.hid (HNX.out (fun _ _ => by omega))
              have t2 : ¬ s1 ≥ 9 := hs
              clear HNX hs
              go_wp2_with (go_at_call 10; refine (HS1.out _).mono ?_; rintro e w7 ⟨rfl, hb⟩; have HB7 := Lib.hid (below_step HB6.out HB6.out.size hb); clear hb)
              go_roundw
              case rel => exact ⟨k + 1, by omega, by omega, by go_num, HB7, HA6⟩
              case measure => simp [intOf]; omega
      · obtain rfl : k = 4 := by omega
        have HAL := Lib.hid (show Alone M n l from fun m h1 h3 h4 h5 => hA.out m h1 (by omega) h4 h5)
        have HCa := Lib.hid (HC5.out.keep hB.out HZ5.out)
        have HFa := Lib.hid (show ∀ j, wr.frozen? ⟨P, j, none⟩ = false from fun j => (hB.out.frozen (p := ⟨P, j, none⟩) HZ5.out).trans (HF5.out j))
        have HBa := Lib.hid (HB5.out.trans (hB.out.mono HB5.out.size))
        have HOa := Lib.hid (owns_kept HO5.out hB.out)
        have HZa := Lib.hid (Nat.lt_of_lt_of_le HZ5.out hB.out.size)
        obtain ⟨wa, hwa⟩ : ∃ wa, wa = wr := ⟨_, rfl⟩
        rw [← hwa] at HCa HFa HBa HOa HZa ⊢
        clear hwa hB hk hk1 hk4 hA HC5 HF5 HB5 HO5 HZ5
        go_upto_region 16 with fail
        go_upto_region 17 with (refine wpList_make_full _ rfl _ _ _ rfl wa.heap.size 5 i0 (.int .u8 0) 1 Tryd.underlying28 hi'.out hz0'.out hz1'.out .i64 .i64 _ _ 8192 rfl rfl rfl rfl HMK8.out (by decide) (Nat.le_refl _) ?_; intro wb hown hgrow; rw [HM8.out] at hown; have HOS := Lib.hid hown; have HBb := Lib.hid (show Below wa.heap.size wa wb from (Below.refl _ _).grown hgrow (Nat.le_refl _) (fun k h => by cases h)); clear hown hgrow)
        have HCb := Lib.hid (HCa.out.keep HBb.out HZa.out)
        have HFb := Lib.hid (show ∀ j, wb.frozen? ⟨P, j, none⟩ = false from fun j => (HBb.out.frozen (p := ⟨P, j, none⟩) HZa.out).trans (HFa.out j))
        have HBb2 := Lib.hid (HBa.out.trans (HBb.out.mono HBa.out.size))
        have HOb := Lib.hid (owns_kept HOa.out HBb.out)
        obtain ⟨G, hG⟩ : ∃ G, wa.heap.size = G := ⟨_, rfl⟩
        rw [hG] at HOS HZa ⊢
        have HPG := HZa
        clear hG HCa HFa HBa HOa HZa HBb
        have f7 := HFb.out 7
        have c7 := HCb.out.c7
        go_upto_region 18 with fail
        have HC1 := Lib.hid (cart_set7 HCb.out (.slice none 0 0))
        have HF1 := Lib.hid (show ∀ j, (wb.setCell ⟨P, 7, none⟩ (.slice none 0 0)).frozen? ⟨P, j, none⟩ = false from fun j => (froz_set _ _ _ _).trans (HFb.out j))
        have HB1 := Lib.hid (HBb2.out.setCell (p := ⟨P, 7, none⟩) HPP.out (.slice none 0 0))
        have HO1 := Lib.hid (owns_under HOb.out (p := ⟨P, 7, none⟩) (Nat.lt_succ_self P) (.slice none 0 0))
        have HS1 := Lib.hid (owns_under HOS.out (p := ⟨P, 7, none⟩) HPG.out (.slice none 0 0))
        obtain ⟨W1, hW1⟩ : ∃ W1, wb.setCell ⟨P, 7, none⟩ (.slice none 0 0) = W1 := ⟨_, rfl⟩
        rw [hW1] at HC1 HF1 HB1 HO1 HS1 ⊢
        clear hW1 f7 c7 HCb HFb HBb2 HOb HOS
        obtain ⟨sg, hsg⟩ : ∃ sg, (if ch = 1 then ss else []) = sg := ⟨_, rfl⟩
        have HSG := Lib.hid hsg
        obtain ⟨sgl, hsgl⟩ : ∃ k, sg.length = k := ⟨_, rfl⟩
        have HSL := Lib.hid hsgl
        have HR1 := Lib.hid (fun W (h1 : Row .u8 W (.slice aM n cM) M) (h2 : Row .u8 W (.slice (some ⟨G, 0, none⟩) 8192 8192) ss) => HRD.out HAL.out [] (.inl rfl) (fun x hx => by cases hx) ss HL8.out (Or.inl trivial) aM n cM (by rw [List.nil_append]; exact HML.out) (some ⟨G, 0, none⟩) 8192 W (by rw [List.nil_append]; exact h1) h2)
        have HR2 := Lib.hid (fun a c W (h1 : Row .u8 W (.slice a (512 + n) c) (zs ++ M)) (h2 : Row .u8 W (.slice (some ⟨G, 0, none⟩) 8192 8192) ss) => HRD.out HAL.out zs (.inr HL5.out) HZF.out ss HL8.out (Or.inl trivial) a (512 + n) c (by rw [List.length_append, HL5.out, HML.out]) (some ⟨G, 0, none⟩) 8192 W h1 h2)
        have HWR := Lib.hid (fun hch W (h1 : Row .u8 W (.slice aM n cM) M) (h2 : Row .u8 W (.slice (some ⟨G, 1, none⟩) 8191 8191) (ss.drop 1)) => HWG.out hch HAL.out (ss.drop 1) 8191 (by rw [List.length_drop, HL8.out]) (by decide) (by decide) aM cM (some ⟨G, 1, none⟩) 8191 W h1 h2)
        have HSM := Lib.hid (fun a1 c1 a2 c2 a3 c3 a4 c4 W h1 h2 h3 h4 => same_walk ⟨l, ch, ram, ti, rs, fa, M, sg⟩ a1 c1 a2 c2 a3 c3 a4 c4 W h1 h2 h3 h4)
        unfold CartR.v at HSM
        simp only [HML.out, hsgl] at HSM
        simp only [hsg, hsgl] at HR1 HR2
        clear hsg hsgl HRD HWG HLK HKF
        have c1 := HC1.out.c1
        have c7 := HC1.out.c7
        have f7 := HF1.out 7
        go_upto_if 70 with fail
        go_cut [70] (fun s70 wx => ∃ sa' sc', Hid (CartAt wx P l ch (.slice a1 n k1) ram ti rs fa (.slice sa' sgl sc')) ∧ Hid (∀ W : World, W.ownsRow G 5 1 (.slice (some ⟨G, 0, none⟩) 8192 8192) 8192 (ss.map (Value.int .u8)) → Row .u8 W (.slice sa' sgl sc') sg) ∧ Hid (wx.ownsRow (P + 1) 5 1 (.slice aM n cM) n (M.map (Value.int .u8))) ∧ Hid (wx.ownsRow G 5 1 (.slice (some ⟨G, 0, none⟩) 8192 8192) 8192 (ss.map (Value.int .u8))) ∧ Hid (Below w.heap.size w wx) ∧ Hid (∀ j, wx.frozen? ⟨P, j, none⟩ = false))
        case first =>
          by_cases hch : ch = 1
          · have q1 : (ch == 1) = true := by rw [beq_iff_eq]; exact hch
            have HSG1 := Lib.hid (show sg = ss by rw [← HSG.out, if_pos hch])
            have HSL1 := Lib.hid (show sgl = 8192 by rw [← HSL.out, HSG1.out]; exact HL8.out)
            clear hch
            go_wp2_with fail
            go_meet
            refine ⟨some ⟨G, 0, none⟩, 8192, ?_, ?_, Lib.hid (owns_under HO1.out (p := ⟨P, 7, none⟩) (Nat.lt_succ_self P) _), Lib.hid (owns_under HS1.out (p := ⟨P, 7, none⟩) HPG.out _), Lib.hid (HB1.out.setCell (p := ⟨P, 7, none⟩) HPP.out _), Lib.hid (fun j => (froz_set _ _ _ _).trans (HF1.out j))⟩
            · rw [HSL1.out]; exact Lib.hid (cart_set7 HC1.out _)
            · rw [HSL1.out, HSG1.out]; exact Lib.hid (fun W h => (Row.owned h).1)
          · have q1 : (ch == 1) = false := by rw [beq_eq_false_iff_ne]; exact hch
            have HSG1 := Lib.hid (show sg = [] by rw [← HSG.out, if_neg hch])
            have HSL1 := Lib.hid (show sgl = 0 by rw [← HSL.out, HSG1.out]; rfl)
            clear hch
            go_wp2_with fail
            go_meet
            refine ⟨none, 0, ?_, ?_, HO1, HS1, HB1, HF1⟩
            · rw [HSL1.out]; exact HC1
            · rw [HSL1.out, HSG1.out]; exact Lib.hid (fun W h => Row.nil _ _)
        case rest =>
          obtain ⟨sa', sc', HC2, HSV, HO2, HS2, HB2, HF2⟩ := hcut
          clear c1 c7 f7 HC1 HF1 HB1 HO1 HS1
          have c2 := HC2.out.c2
          have f2 := HF2.out 2
          go_upto_region 21 with fail
          have HC3 := Lib.hid (cart_put2 HC2.out (.slice aM n cM))
          have HB3 := Lib.hid (HB2.out.setCell (p := ⟨P, 2, none⟩) HPP.out (.slice aM n cM))
          have HO3 := Lib.hid (owns_under HO2.out (p := ⟨P, 2, none⟩) (Nat.lt_succ_self P) (.slice aM n cM))
          have HS3 := Lib.hid (owns_under HS2.out (p := ⟨P, 2, none⟩) HPG.out (.slice aM n cM))
          obtain ⟨W3, hW3⟩ : ∃ W3, wc.setCell ⟨P, 2, none⟩ (.slice aM n cM) = W3 := ⟨_, rfl⟩
          rw [hW3] at HC3 HB3 HO3 HS3 ⊢
          clear hW3 c2 f2 HC2 HO2 HS2 HB2 HF2
          have HZ3 := Lib.hid (show P < W3.heap.size from Nat.lt_trans HPG.out (HS3.out.lt G rfl).2)
          go_upto_region 22 with (go_at_call 14; refine (HR1.out _ (Row.owned HO3.out).1 (Row.owned HS3.out).1).mono ?_; rintro e w4 ⟨rv, sv, rfl, k1, k2, hb⟩; obtain ⟨ag, cg, rfl⟩ := owns_sliced k1; obtain ⟨ah, ch2, rfl⟩ := owns_sliced k2)
          have ha := (Below.refl w4.heap.size w4).alloc (Nat.le_refl _) (.cells #[.int .u8 l, .int .u8 ch, .slice ag n cg, .int .i64 ram, .string ti, .int .u16 rs, .bool fa, .slice ah sgl ch2] 36)
          have hb2 := hb.trans (ha.mono hb.size)
          have HG4 := Lib.hid (cart_boxed w4 l ch (.slice ag n cg) ram ti rs fa (.slice ah sgl ch2))
          have HT4 := Lib.hid (box8_of w4 (.int .u8 l) (.int .u8 ch) (.slice ag n cg) (.int .i64 ram) (.string ti) (.int .u16 rs) (.bool fa) (.slice ah sgl ch2) 36)
          have HK1 := Lib.hid (Row.owned (owns_kept k1 ha)).1
          have HK2 := Lib.hid (Row.owned (owns_kept k2 ha)).1
          have HC4 := Lib.hid (HC3.out.keep hb2 HZ3.out)
          have HO4 := Lib.hid (owns_kept HO3.out hb2)
          have HS4 := Lib.hid (owns_kept HS3.out hb2)
          have HB4 := Lib.hid (HB3.out.trans (hb2.mono HB3.out.size))
          have HY4 := Lib.hid (show P < w4.heap.size ∧ w4.heap.size < (w4.alloc (.cells #[.int .u8 l, .int .u8 ch, .slice ag n cg, .int .i64 ram, .string ti, .int .u16 rs, .bool fa, .slice ah sgl ch2] 36)).heap.size from ⟨Nat.lt_of_lt_of_le HZ3.out hb.size, by simp⟩)
          have HWY := Lib.hid (show w.heap.size ≤ w4.heap.size from Nat.le_trans HB3.out.size hb.size)
          have HSY := Lib.hid (show G < w4.heap.size from Nat.lt_of_lt_of_le (HS3.out.lt G rfl).2 hb.size)
          have HOY := Lib.hid (show ∀ g c, Value.slice aM n cM = .slice (some ⟨g, 0, none⟩) n c → g < w4.heap.size from fun g c h => by
            have h2 := HO3.out; rw [h] at h2; exact Nat.lt_of_lt_of_le (h2.lt g rfl).2 hb.size)
          obtain ⟨W4, hW4⟩ : ∃ W4, w4.alloc (.cells #[.int .u8 l, .int .u8 ch, .slice ag n cg, .int .i64 ram, .string ti, .int .u16 rs, .bool fa, .slice ah sgl ch2] 36) = W4 := ⟨_, rfl⟩
          rw [hW4] at HG4 HT4 HK1 HK2 HC4 HO4 HS4 HB4 HY4 ⊢
          obtain ⟨Y, hY⟩ : ∃ Y, w4.heap.size = Y := ⟨_, rfl⟩
          rw [hY] at HG4 HT4 HY4 HWY HSY HOY ⊢
          clear ha hb hb2 k1 k2 hW4 hY HC3 HO3 HS3 HB3 HZ3
          have x0 := HG4.out.c0
          have x1 := HG4.out.c1
          have x2 := HG4.out.c2
          have x3 := HG4.out.c3
          have x4 := HG4.out.c4
          have x5 := HG4.out.c5
          have x6 := HG4.out.c6
          have x7 := HG4.out.c7
          have y0 := HC4.out.c0
          have y1 := HC4.out.c1
          have y2 := HC4.out.c2
          have y3 := HC4.out.c3
          have y4 := HC4.out.c4
          have y5 := HC4.out.c5
          have y6 := HC4.out.c6
          have y7 := HC4.out.c7
          go_upto_region 24 with (go_at_call 17; refine Calls.mono (HSM.out _ _ _ _ _ _ _ _ _ HK1.out HK2.out (Row.owned HO4.out).1 (HSV.out _ HS4.out)) ?_; rintro e w5 ⟨rfl, hb⟩)
          have HZY := Lib.hid (Nat.lt_trans HY4.out.1 HY4.out.2)
          have HC5 := Lib.hid (HC4.out.keep hb HZY.out)
          have HT5 := Lib.hid (HT4.out.keep hb HY4.out.2)
          have HO5 := Lib.hid (owns_kept HO4.out hb)
          have HS5 := Lib.hid (owns_kept HS4.out hb)
          have HB5 := Lib.hid (HB4.out.trans (hb.mono HB4.out.size))
          have HY5 := Lib.hid (show P < Y ∧ Y < w5.heap.size from ⟨HY4.out.1, Nat.lt_of_lt_of_le HY4.out.2 hb.size⟩)
          clear hb x0 x1 x2 x3 x4 x5 x6 x7 y0 y1 y2 y3 y4 y5 y6 y7 HG4 HT4 HK1 HK2 HC4 HO4 HS4 HB4 HY4 HZY
          have c1 := HC5.out.c1
          go_upto_if 91 with fail
          go_cut [91] (fun s91 wx => Hid (Below w5.heap.size w5 wx))
          case first =>
            by_cases hch : ch = 1
            · have q1 : (ch == 1) = true := by rw [beq_iff_eq]; exact hch
              have HW1 := Lib.hid (HWR.out hch)
              have HD1 := Lib.hid (show Row .u8 w5 (.slice (some ⟨G, 1, none⟩) 8191 8191) (ss.drop 1) by
                have h := drop_row (w := w5) (b := G) (o := 0) (n := 8192) (c := 8192) (xs := ss) (fun i hi => by rw [HL8.out] at hi; rw [Nat.zero_add]; exact owns_cellc HS5.out i hi) HL8.out 1 (by decide) (by decide) (by decide)
                exact h)
              clear hch
              go_wp2_with (go_at_call 14; refine (HW1.out _ (Row.owned HO5.out).1 HD1.out).mono ?_; rintro e w6 ⟨rv, rfl, hb⟩; have HB6 := Lib.hid hb; clear hb)
              go_meet
              exact HB6
            · have q1 : (ch == 1) = false := by rw [beq_eq_false_iff_ne]; exact hch
              clear hch
              go_wp2_with fail
              go_meet
              exact Lib.hid (Below.refl _ _)
          case rest =>
            have hb := hcut.out
            have HC6 := Lib.hid (HC5.out.keep hb (Nat.lt_trans HY5.out.1 HY5.out.2))
            have HT6 := Lib.hid (HT5.out.keep hb HY5.out.2)
            have HO6 := Lib.hid (owns_kept HO5.out hb)
            have HS6 := Lib.hid (owns_kept HS5.out hb)
            have HB6 := Lib.hid (HB5.out.trans (hb.mono HB5.out.size))
            have HY6 := Lib.hid (show P < Y ∧ Y < wc.heap.size from ⟨HY5.out.1, Nat.lt_of_lt_of_le HY5.out.2 hb.size⟩)
            clear hb hcut HC5 HT5 HO5 HS5 HB5 HY5 c1
            go_upto_region 28 with fail
            obtain ⟨b, o, c2, hra, hcc, hcm, hrc⟩ := (Row.owned HO6.out).1.cells (by rw [HML.out]; omega)
            rw [HML.out] at hra hcc
            injection hra with hr1 hr2 hr3
            subst hr1 hr3
            have HN := Lib.hid (fun (W : World) (hW : Below wc.heap.size wc W) => show ∀ (j : Nat) u, (M.map (Value.int .u8))[j]? = some u → W.cell? ((⟨b, o, none⟩ : Addr).add j) = some u from fun j u hu => by
              rcases Nat.lt_or_ge j M.length with hj | hj
              · have h1 := hrc j hj
                rw [List.getElem?_map, List.getElem?_eq_getElem hj] at hu
                rw [List.getElem?_eq_getElem hj] at h1
                injection hu with hu
                rw [← hu, show ((⟨b, o, none⟩ : Addr).add j) = ⟨b, o + j, none⟩ from addr_add b o j]
                exact cell_stays h1 hW
              · rw [List.getElem?_map, List.getElem?_eq_none hj] at hu; cases hu)
            have HNL := Lib.hid (show (M.map (Value.int .u8)).length = n * 1 by rw [List.length_map, HML.out, Nat.mul_one])
            have HOC := Lib.hid (show ∀ u ∈ M.map (Value.int .u8), u.oneCell' = true from fun u hu => by obtain ⟨x, -, rfl⟩ := List.mem_map.1 hu; rfl)
            clear hrc hcc hcm hr2
            go_upto_region 29 with (refine wpList_make_full _ rfl _ _ _ rfl wc.heap.size 5 i0 (.int .u8 0) 1 Tryd.underlying28 hi'.out hz0'.out hz1'.out .i64 .i64 _ _ 512 rfl rfl rfl rfl HMK5.out (by decide) (Nat.le_refl _) ?_; intro w7 hown hgrow; rw [HM5.out] at hown; have HOZ := Lib.hid hown; have HB7 := Lib.hid (show Below wc.heap.size wc w7 from (Below.refl _ _).grown hgrow (Nat.le_refl _) (fun k h => by cases h)); clear hown hgrow)
            have HN7 := Lib.hid (HN.out w7 HB7.out)
            have HA3 := Lib.hid (show 512 + n ≤ maxLen by unfold maxLen; omega)
            have HA4 := Lib.hid (show (512 + n) * 1 ≤ 140737488355328 by omega)
            go_wp2_with (at_builtin; refine wpList_append_own _ rfl _ _ 28 rfl wc.heap.size 5 i0 (.int .u8 0) 1 1 Tryd.underlying28 hi'.out hz0'.out hz1'.out hz2'.out rfl (by decide) _ _ _ rfl HOZ.out ⟨b, o, none⟩ n cM (M.map (Value.int .u8)) rfl HNL.out HN7.out HOC.out HA3.out HA4.out HB7.out.size ?_)
            intro v8 w8 hown hgrow _
            rw [← List.map_append] at hown
            have hb8 := HB7.out.grown hgrow HB7.out.size (fun j e => (HOZ.out.lt j e).1)
            obtain ⟨a8, c8, rfl⟩ := owns_sliced hown
            have HR8 := Lib.hid (Row.owned hown).1
            have HC8 := Lib.hid (HC6.out.keep hb8 (Nat.lt_trans HY6.out.1 HY6.out.2))
            have HT8 := Lib.hid (HT6.out.keep hb8 HY6.out.2)
            have HO8 := Lib.hid (owns_kept HO6.out hb8)
            have HS8 := Lib.hid (owns_kept HS6.out hb8)
            have HB8 := Lib.hid (HB6.out.trans (hb8.mono HB6.out.size))
            have HY8 := Lib.hid (show P < Y ∧ Y < w8.heap.size from ⟨HY6.out.1, Nat.lt_of_lt_of_le HY6.out.2 hb8.size⟩)
            clear hown hgrow hb8 HN HN7 HOZ HB7 HC6 HT6 HO6 HS6 HB6 HY6
            go_wp2_with fail
            go_at_call 14
            refine (HR2.out _ _ _ HR8.out (Row.owned HS8.out).1).mono ?_
            rintro e w9 ⟨rv, sv, rfl, k1, k2, hb⟩
            obtain ⟨ag9, cg9, rfl⟩ := owns_sliced k1
            obtain ⟨ah9, ch9, rfl⟩ := owns_sliced k2
            have HC9 := Lib.hid (HC8.out.keep hb (Nat.lt_trans HY8.out.1 HY8.out.2))
            have HT9 := Lib.hid (HT8.out.keep hb HY8.out.2)
            have HO9 := Lib.hid (owns_kept HO8.out hb)
            have HS9 := Lib.hid (owns_kept HS8.out hb)
            have HB9 := Lib.hid (HB8.out.trans (hb.mono HB8.out.size))
            have HG9 := Lib.hid k1
            have HH9 := Lib.hid k2
            have HY9 := Lib.hid (show P < Y ∧ Y < w8.heap.size from HY8.out)
            clear hb k1 k2 HR8 HC8 HT8 HO8 HS8 HB8 HY8
            have HBP := Lib.hid (put8_below (.int .u8 l) (.int .u8 ch) (.slice ag9 n cg9) (.int .i64 ram) (.string ti) (.int .u16 rs) (.bool fa) (.slice ah9 sgl ch9) (Below.refl Y w9) (Nat.le_refl Y))
            have HGP := Lib.hid (put8_cart HT9.out l ch (.slice ag9 n cg9) ram ti rs fa (.slice ah9 sgl ch9))
            have HRP := Lib.hid (Row.owned (owns_put8 (.int .u8 l) (.int .u8 ch) (.slice ag9 n cg9) (.int .i64 ram) (.string ti) (.int .u16 rs) (.bool fa) (.slice ah9 sgl ch9) HG9.out HY9.out.2)).1
            have HSP := Lib.hid (Row.owned (owns_put8 (.int .u8 l) (.int .u8 ch) (.slice ag9 n cg9) (.int .i64 ram) (.string ti) (.int .u16 rs) (.bool fa) (.slice ah9 sgl ch9) HH9.out HY9.out.2)).1
            have HFP := Lib.hid (HB9.out.trans (HBP.out.mono HWY.out))
            have HCP := Lib.hid (HC9.out.keep HBP.out HY9.out.1)
            have HQP := Lib.hid (HSV.out _ (owns_far HS9.out HBP.out HSY.out))
            have HMP := Lib.hid (row_far HO9.out (Nat.lt_of_lt_of_le (by decide) hn0) HOY.out HBP.out)
            obtain ⟨⟨u0, u1, u2, u3, u4, u5, u6, u7, g0, g1, g2, g3, g4, g5, g6, g7⟩, gf⟩ := HT9.out
            have f0 := gf 0
            have f1 := gf 1
            have f2 := gf 2
            have f3 := gf 3
            have f4 := gf 4
            have f5 := gf 5
            have f6 := gf 6
            have f7 := gf 7
            clear gf HT9 HC9 HO9 HS9 HB9 HG9 HH9 HBP
            unfold put8 at HGP
            go_upto_region 30 with fail
            clear g0 g1 g2 g3 g4 g5 g6 g7 f0 f1 f2 f3 f4 f5 f6 f7
            obtain ⟨WP, hWP⟩ : ∃ WP, (((((((w9.setCell ⟨Y, 0, none⟩ (.int .u8 l)).setCell ⟨Y, 1, none⟩ (.int .u8 ch)).setCell ⟨Y, 2, none⟩ (.slice ag9 n cg9)).setCell ⟨Y, 3, none⟩ (.int .i64 ram)).setCell ⟨Y, 4, none⟩ (.string ti)).setCell ⟨Y, 5, none⟩ (.int .u16 rs)).setCell ⟨Y, 6, none⟩ (.bool fa)).setCell ⟨Y, 7, none⟩ (.slice ah9 sgl ch9) = WP := ⟨_, rfl⟩
            rw [hWP] at HGP HRP HSP HFP HCP HQP HMP ⊢
            clear hWP
            have x0 := HGP.out.c0
            have x1 := HGP.out.c1
            have x2 := HGP.out.c2
            have x3 := HGP.out.c3
            have x4 := HGP.out.c4
            have x5 := HGP.out.c5
            have x6 := HGP.out.c6
            have x7 := HGP.out.c7
            have y0 := HCP.out.c0
            have y1 := HCP.out.c1
            have y2 := HCP.out.c2
            have y3 := HCP.out.c3
            have y4 := HCP.out.c4
            have y5 := HCP.out.c5
            have y6 := HCP.out.c6
            have y7 := HCP.out.c7
            go_wp2_with fail
            go_at_call 17
            refine Calls.mono (HSM.out _ _ _ _ _ _ _ _ _ HRP.out HSP.out HMP.out HQP.out) ?_
            rintro e w10 ⟨rfl, hb⟩
            have HF := Lib.hid (HFP.out.trans (hb.mono HFP.out.size))
            clear hb
            go_wp2_with fail
            go_ret
            exact ⟨rfl, HF.out⟩
end Go.Proofs.YtjaeglllijafkaaDoor
