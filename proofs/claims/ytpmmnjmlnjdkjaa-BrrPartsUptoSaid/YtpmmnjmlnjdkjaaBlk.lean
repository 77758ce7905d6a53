/- The walk of the program's block. -/
import Derived.Test.YtpmmnjmlnjdkjaaEnc
namespace Go.Proofs.Ytpmmnjmlnjdkjaa
open Go.RowKit

theorem some_ne {a b : Nat} (h : a ≠ b) : some a ≠ some b := fun e => h (Option.some.inj e)
/-- A packed block in memory: nine bytes and how far it is. -/
structure PackAt (w : World) (g : Nat) (bs : List Int) (a : Int) : Prop where
  len : bs.length = 9
  c : ∀ i, i < 9 → w.cell? ⟨g, i, none⟩ = some (.int .u8 (bs[i]?.getD 0))
  ca : w.cell? ⟨g, 9, none⟩ = some (.int .i64 a)
  fz : ∀ i, w.frozen? ⟨g, i, none⟩ = false
theorem PackAt.lt {w : World} {g : Nat} {bs : List Int} {a : Int} (h : PackAt w g bs a) : g < w.heap.size := World.block_lt_of_cell? w _ h.ca
theorem PackAt.below {w w' : World} {g B : Nat} {bs : List Int} {a : Int} (h : PackAt w g bs a) (hb : Below B w w') (hB : g < B) : PackAt w' g bs a :=
  ⟨h.len, fun i hi => (hb.cell (p := ⟨g, i, none⟩) hB).trans (h.c i hi), (hb.cell (p := ⟨g, 9, none⟩) hB).trans h.ca, fun i => (hb.frozen (p := ⟨g, i, none⟩) hB).trans (h.fz i)⟩
theorem PackAt.grown {w w' : World} {g : Nat} {row : Option Nat} {bs : List Int} {a : Int} (h : PackAt w g bs a) (hg : w.grownBy w' row) (hne : some g ≠ row) : PackAt w' g bs a := by
  have hk := hg.block g h.lt hne
  exact ⟨h.len, fun i hi => (World.cell?_of_block (a := ⟨g, i, none⟩) hk).trans (h.c i hi), (World.cell?_of_block (a := ⟨g, 9, none⟩) hk).trans h.ca, fun i => (World.frozen?_of_block (a := ⟨g, i, none⟩) hk).trans (h.fz i)⟩
theorem PackAt.setApart {w : World} {g : Nat} {bs : List Int} {a : Int} (h : PackAt w g bs a) (b : Int) : PackAt (w.setCell ⟨g, 9, none⟩ (.int .i64 b)) g bs b := by
  refine ⟨h.len, fun i hi => ?_, World.cell?_setCell_same _ _ _ h.ca, fun i => by rw [World.frozen?_setCell]; exact h.fz i⟩
  rw [World.cell?_setCell_other _ _ _ _ (fun e => by have := congrArg Addr.off e; simp at this; omega)]; exact h.c i hi
theorem PackAt.setByte {w : World} {g : Nat} {bs : List Int} {a : Int} (h : PackAt w g bs a) (j : Nat) (hj : j < 9) (x : Int) : PackAt (w.setCell ⟨g, j, none⟩ (.int .u8 x)) g (bs.set j x) a := by
  refine ⟨by rw [List.length_set]; exact h.len, fun i hi => ?_, ?_, fun i => by rw [World.frozen?_setCell]; exact h.fz i⟩
  · by_cases e : j = i
    · subst e
      rw [World.cell?_setCell_same _ _ _ (h.c j hj), List.getElem?_set_self (by rw [h.len]; exact hj)]; rfl
    · rw [World.cell?_setCell_other _ _ _ _ (fun e' => e (congrArg Addr.off e')), List.getElem?_set_ne e]; exact h.c i hi
  · rw [World.cell?_setCell_other _ _ _ _ (fun e => by have := congrArg Addr.off e; simp at this; omega)]; exact h.ca
theorem PackAt.new (w : World) (b0 b1 b2 b3 b4 b5 b6 b7 b8 a : Int) (T : TypeId) :
    PackAt (w.alloc (.cells #[.int .u8 b0, .int .u8 b1, .int .u8 b2, .int .u8 b3, .int .u8 b4, .int .u8 b5, .int .u8 b6, .int .u8 b7, .int .u8 b8, .int .i64 a] T)) w.heap.size [b0, b1, b2, b3, b4, b5, b6, b7, b8] a := by
  refine ⟨rfl, fun i hi => ?_, by simp, fun i => by simp⟩
  have : i = 0 ∨ i = 1 ∨ i = 2 ∨ i = 3 ∨ i = 4 ∨ i = 5 ∨ i = 6 ∨ i = 7 ∨ i = 8 := by omega
  rcases this with rfl | rfl | rfl | rfl | rfl | rfl | rfl | rfl | rfl <;> simp

/-- A packed block as a value. -/
def packV (bs : List Int) (a : Int) : Value := .agg #[.int .u8 (bs[0]?.getD 0), .int .u8 (bs[1]?.getD 0), .int .u8 (bs[2]?.getD 0), .int .u8 (bs[3]?.getD 0), .int .u8 (bs[4]?.getD 0), .int .u8 (bs[5]?.getD 0), .int .u8 (bs[6]?.getD 0), .int .u8 (bs[7]?.getD 0), .int .u8 (bs[8]?.getD 0), .int .i64 a]

theorem or_even (n : Int) : bits BinOp.or IntKind.u8 0 (n % 16 * 16) = n % 16 * 16 := by
  rw [u8_or 0 _ (by omega) (by omega) (by omega) (by omega), show ((0 : Int).toNat) = 0 from rfl, Nat.zero_or]; omega
theorem or_odd (o n : Int) (h0 : 0 ≤ o) (h1 : o ≤ 255) (h : o % 16 = 0) : bits BinOp.or IntKind.u8 o (n % 16) = o + n % 16 := by
  rw [u8_or o _ (by omega) (by omega) (by omega) (by omega), nat_join 4 _ _ (by omega) (by omega)]; omega

set_option maxHeartbeats 4000000 in
theorem block_walk (v : Value) (s : List Int) (sh f p q head : Int) (w : World) (hr : Row .i16 w v s) (hf : Fits .i16 s) (hl : s.length = 16) (s0 : 0 ≤ sh) (s1 : sh ≤ 15)
    (p0 : -32768 ≤ p) (p1 : p ≤ 32767) (q0 : -32768 ≤ q) (q1 : q ≤ 32767) :
    Calls Try.prog 33 #[v, .agg #[.int .u8 sh, fnOf f, .int .i64 p, .int .i64 q], .int .u8 head] w fun e w' => e = .returned (packV (blockE head (nibE sh f s p q) 16) (apartE sh f s p q 16)) ∧ Below w.heap.size w w' := by
  rcases hr with ⟨_, _, _, rfl, _⟩ | ⟨b, o, cap, rfl, _, hc, hm, hx⟩
  · simp at hl
  · rw [hl] at hc hx ⊢
    have HX := Lib.hid hx
    have HP := Lib.hid (fun k => eP_bounds sh f s p q p0 p1 q0 q1 k)
    have HFit := Lib.hid hf
    have HL := Lib.hid hl
    obtain ⟨gF, hgF⟩ : ∃ gF : Nat, fnOf f = .func (.func gF) #[] #[] := ⟨_, rfl⟩
    rw [hgF]
    have HG := Lib.hid hgF
    clear hx hf hl hgF
    go_enter Try.func33, Try.ntmps33
    go_wp2_with fail
    have gR : RowAt (((w.alloc (.cells #[.int .u8 sh, .func (.func gF) #[] #[], .int .i64 p, .int .i64 q] 59)).alloc (.cells #[.int .u8 0, .int .u8 0, .int .u8 0, .int .u8 0, .int .u8 0, .int .u8 0, .int .u8 0, .int .u8 0, .int .u8 0, .int .i64 0] 68)).alloc (.cells #[.int .u8 head, .int .u8 0, .int .u8 0, .int .u8 0, .int .u8 0, .int .u8 0, .int .u8 0, .int .u8 0, .int .u8 0, .int .i64 0] 68)) w.heap.size sh f p q :=
      ((rowAt_new (w := w) sh 59 HG.out rfl).below ((Below.refl _ _).alloc (Nat.le_refl _) _) (by simp)).below ((Below.refl _ _).alloc (Nat.le_refl _) _) (by simp; omega)
    have gZ := (PackAt.new (w.alloc (.cells #[.int .u8 sh, .func (.func gF) #[] #[], .int .i64 p, .int .i64 q] 59)) 0 0 0 0 0 0 0 0 0 0 68).below (w' := ((w.alloc (.cells #[.int .u8 sh, .func (.func gF) #[] #[], .int .i64 p, .int .i64 q] 59)).alloc (.cells #[.int .u8 0, .int .u8 0, .int .u8 0, .int .u8 0, .int .u8 0, .int .u8 0, .int .u8 0, .int .u8 0, .int .u8 0, .int .i64 0] 68)).alloc (.cells #[.int .u8 head, .int .u8 0, .int .u8 0, .int .u8 0, .int .u8 0, .int .u8 0, .int .u8 0, .int .u8 0, .int .u8 0, .int .i64 0] 68)) ((Below.refl _ _).alloc (Nat.le_refl _) _) (by simp)
    have gP := PackAt.new ((w.alloc (.cells #[.int .u8 sh, .func (.func gF) #[] #[], .int .i64 p, .int .i64 q] 59)).alloc (.cells #[.int .u8 0, .int .u8 0, .int .u8 0, .int .u8 0, .int .u8 0, .int .u8 0, .int .u8 0, .int .u8 0, .int .u8 0, .int .i64 0] 68)) head 0 0 0 0 0 0 0 0 0 68
    have gB : Below w.heap.size w (((w.alloc (.cells #[.int .u8 sh, .func (.func gF) #[] #[], .int .i64 p, .int .i64 q] 59)).alloc (.cells #[.int .u8 0, .int .u8 0, .int .u8 0, .int .u8 0, .int .u8 0, .int .u8 0, .int .u8 0, .int .u8 0, .int .u8 0, .int .i64 0] 68)).alloc (.cells #[.int .u8 head, .int .u8 0, .int .u8 0, .int .u8 0, .int .u8 0, .int .u8 0, .int .u8 0, .int .u8 0, .int .u8 0, .int .i64 0] 68)) :=
      (((Below.refl _ w).alloc (Nat.le_refl _) _).alloc (by simp) _).alloc (by simp; omega) _
    simp only [World.size_alloc] at gZ gP
    generalize ((w.alloc (.cells #[.int .u8 sh, .func (.func gF) #[] #[], .int .i64 p, .int .i64 q] 59)).alloc (.cells #[.int .u8 0, .int .u8 0, .int .u8 0, .int .u8 0, .int .u8 0, .int .u8 0, .int .u8 0, .int .u8 0, .int .u8 0, .int .i64 0] 68)).alloc (.cells #[.int .u8 head, .int .u8 0, .int .u8 0, .int .u8 0, .int .u8 0, .int .u8 0, .int .u8 0, .int .u8 0, .int .u8 0, .int .i64 0] 68) = W3 at gR gZ gP gB ⊢
    have GR := Lib.hid gR
    have GZ := Lib.hid gZ
    have GP : Hid (PackAt W3 (w.heap.size + 1 + 1) (blockE head (nibE sh f s p q) 0) (apartE sh f s p q 0)) := gP
    clear gR gZ gP
    obtain ⟨R, hR⟩ : ∃ R, w.heap.size = R := ⟨_, rfl⟩
    rw [hR] at GR GZ GP
    rw [hR]
    have HRR := Lib.hid hR
    rw [hR] at gB
    clear hR
    go_loopw [17] (fun v17 wr => ∃ k : Nat, k ≤ 16 ∧ v17 = .int .i64 k ∧ Hid (RowAt wr R sh f (eP sh f s p q k).1 (eP sh f s p q k).2) ∧ Hid (PackAt wr (R + 1 + 1) (blockE head (nibE sh f s p q) k) (apartE sh f s p q k)) ∧
      Hid (PackAt wr (R + 1) [0, 0, 0, 0, 0, 0, 0, 0, 0] 0) ∧ Below R w wr) (fun v17 _ => (16 - intOf v17).toNat)
    case atStart => exact ⟨0, by omega, rfl, GR, GP, GZ, gB⟩
    case round =>
      obtain ⟨k, hk, rfl, hrow, hpk, hz, hbr⟩ := hrel
      by_cases hlt : k < 16
      · have hcw := HX.out k (by omega)
        have cs : wr.cell? ⟨b, o + k, none⟩ = some (.int .i16 (s[k]?.getD 0)) := by rw [hbr.cell (by have := World.block_lt_of_cell? w _ hcw; have := HRR.out; omega)]; exact hcw
        have hwb := HFit.out.i16 (i := k) (by have := HL.out; omega)
        have hd := HP.out k
        have hd2 := HP.out (k + 1)
        have hnb := nibE_bounds sh f s p q k
        have hab := apartE_bounds sh f s p q (fun j => by
          by_cases hj : j < s.length
          · exact HFit.out.i16 hj
          · rw [List.getElem?_eq_none (by omega)]; simp) k
        have hfb := farN_bounds sh f (eP sh f s p q k).1 (eP sh f s p q k).2 (s[k]?.getD 0) (nibE sh f s p q k) hwb.1 hwb.2
        have hob := byteE_bounds (nibE sh f s p q) k (k / 2)
        have hold := hpk.out.c (1 + k / 2) (by omega)
        rw [blockE_at _ _ _ _ (by omega)] at hold
        obtain ⟨P1, hP1⟩ : ∃ P1, (eP sh f s p q k).1 = P1 := ⟨_, rfl⟩
        obtain ⟨Q1, hQ1⟩ : ∃ Q1, (eP sh f s p q k).2 = Q1 := ⟨_, rfl⟩
        obtain ⟨S1, hS1⟩ : ∃ S1, (eP sh f s p q (k + 1)).1 = S1 := ⟨_, rfl⟩
        obtain ⟨X, hX⟩ : ∃ X, s[k]?.getD 0 = X := ⟨_, rfl⟩
        obtain ⟨NB, hNB⟩ : ∃ NB, nibE sh f s p q k = NB := ⟨_, rfl⟩
        obtain ⟨A, hA⟩ : ∃ A, apartE sh f s p q k = A := ⟨_, rfl⟩
        obtain ⟨OB, hOB⟩ : ∃ OB, byteE (nibE sh f s p q) k (k / 2) = OB := ⟨_, rfl⟩
        have hn1 : nearN sh f P1 Q1 X = NB := by rw [← hNB, ← hP1, ← hQ1, ← hX]; rfl
        have hs1 : sampleN sh f NB P1 Q1 = S1 := by rw [← hS1, ← hNB, ← hP1, ← hQ1]; rfl
        obtain ⟨FB, hFB⟩ : ∃ FB, farN sh f P1 Q1 X NB = FB := ⟨_, rfl⟩
        have hA1 : apartE sh f s p q (k + 1) = A + FB := by rw [← hA, ← hFB, ← hP1, ← hQ1, ← hX, ← hNB]; rfl
        have hq1 : (eP sh f s p q (k + 1)).2 = P1 := by rw [← hP1]; rfl
        rw [hP1, hQ1, hX, hNB, hFB] at hfb
        rw [hP1, hQ1] at hd hrow
        rw [hS1] at hd2
        rw [hX] at cs hwb
        rw [hNB] at hnb
        rw [hA] at hab hpk
        rw [hOB] at hob hold
        have HN1 := Lib.hid hn1
        have HS1 := Lib.hid hs1
        have HF1 := Lib.hid hFB
        have HA1 := Lib.hid hA1
        have HQ1 := Lib.hid hq1
        have HS2 := Lib.hid hS1
        have HNB := Lib.hid hNB
        have HOB := Lib.hid hOB
        have HOL := Lib.hid hold
        clear hP1 hQ1 hS1 hX hNB hA hOB hn1 hs1 hFB hA1 hq1 hcw hold
        have hab2 : 0 ≤ A ∧ A ≤ 68719476736 := by omega
        have i1 : (k : Int) < 16 := by omega
        have i2 : 0 ≤ (k : Int) := by omega
        go_wp2_with fail
        go_at_call 44
        refine (nearest_any R sh f P1 Q1 X _ hrow.out (by omega) (by omega) (by omega) (by omega) (by omega) (by omega) (by omega) (by omega)).mono ?_
        rintro e w2 ⟨rfl, n2, rfl⟩
        rw [HN1.out, HF1.out]
        go_wp2_with fail
        go_at_call 30
        refine (sample_any R sh f NB P1 Q1 _ (hrow.out.drewN n2) (by omega) (by omega) (by omega) (by omega) (by omega) (by omega) (by omega) (by omega)).mono ?_
        rintro e w3 ⟨rfl, n3, rfl⟩
        rw [HS1.out]
        go_wp2_with fail
        go_at_call 29
        refine (take_row R sh f P1 Q1 S1 _ (hrow.out.drewN (n2 + n3))).mono ?_
        rintro e w4 ⟨rfl, hrow4, hgr4, hsz4⟩
        have hgr5 := grownBy_from_drewN hgr4
        have hp4 := hpk.out.grown hgr5 (some_ne (by omega))
        have hz4 := Lib.hid (hz.out.grown hgr5 (some_ne (by omega)))
        have hbw : Below R w w4 := hbr.grown hgr5 (by have := hz.out.lt; omega) (fun j e => by cases e; exact Nat.le_refl _)
        have HR4 := Lib.hid hrow4
        have c9 := hp4.ca
        have f9 := hp4.fz 9
        have HP4 := Lib.hid hp4
        clear hrow4 hgr4 hsz4 hgr5 hp4 hpk hz hrow hbr cs
        go_upto_region 9 with fail
        have hp5 := HP4.out.setApart (A + FB)
        have hr5 := Lib.hid (HR4.out.grown (grownBy_setCell w4 ⟨R + 1 + 1, 9, none⟩ (.int .i64 (A + FB))) (some_ne (show R ≠ R + 1 + 1 by omega)))
        have hz5 := Lib.hid (hz4.out.grown (grownBy_setCell w4 ⟨R + 1 + 1, 9, none⟩ (.int .i64 (A + FB))) (some_ne (show R + 1 ≠ R + 1 + 1 by omega)))
        have hb5 : Below R w (w4.setCell ⟨R + 1 + 1, 9, none⟩ (.int .i64 (A + FB))) := hbw.setCell (by simp; omega) _
        generalize w4.setCell ⟨R + 1 + 1, 9, none⟩ (.int .i64 (A + FB)) = w5 at hp5 hr5 hz5 hb5 ⊢
        have c5 : w5.cell? ⟨R + 1 + 1, 1 + k / 2, none⟩ = some (.int .u8 OB) := by
          rw [hp5.c (1 + k / 2) (by omega), blockE_at _ _ _ _ (by omega), HOB.out]
        have f5 : w5.frozen? ⟨R + 1 + 1, 1 + k / 2, none⟩ = false := hp5.fz _
        have HP5 := Lib.hid hp5
        clear hp5 c9 f9 hz4 HP4 HR4 hbw
        have hk2 : (k : Int) % 2 = 0 ∨ (k : Int) % 2 = 1 := by omega
        rcases hk2 with hk2 | hk2
        · have HK2 := Lib.hid hk2
          go_region
          have hV : bits BinOp.or IntKind.u8 OB (NB % 16 * 16) = byteE (nibE sh f s p q) (k + 1) (k / 2) := by
            have hev := byteE_even (nibE sh f s p q) k (by have := HK2.out; omega)
            have hob0 : OB = 0 := by rw [← HOB.out]; exact hev.1
            rw [hev.2, HNB.out, hob0]; exact or_even NB
          have hp6 : Hid (PackAt (w5.setCell ⟨R + 1 + 1, 1 + k / 2, none⟩ (.int .u8 (bits BinOp.or IntKind.u8 OB (NB % 16 * 16)))).drew (R + 1 + 1) (blockE head (nibE sh f s p q) (k + 1)) (apartE sh f s p q (k + 1))) := by
            have h := HP5.out.setByte (1 + k / 2) (by omega) (bits BinOp.or IntKind.u8 OB (NB % 16 * 16))
            rw [HA1.out]
            have hset := blockE_set head (nibE sh f s p q) k hlt
            rw [← hV] at hset
            rw [← hset]
            exact ⟨h.len, h.c, h.ca, h.fz⟩
          have hr6 : Hid (RowAt (w5.setCell ⟨R + 1 + 1, 1 + k / 2, none⟩ (.int .u8 (bits BinOp.or IntKind.u8 OB (NB % 16 * 16)))).drew R sh f (eP sh f s p q (k + 1)).1 (eP sh f s p q (k + 1)).2) := by
            have h := hr5.out.grown (grownBy_setCell w5 ⟨R + 1 + 1, 1 + k / 2, none⟩ (.int .u8 (bits BinOp.or IntKind.u8 OB (NB % 16 * 16)))) (some_ne (show R ≠ R + 1 + 1 by omega))
            rw [HS2.out, HQ1.out]
            exact ⟨h.c0, h.c1, h.c2, h.c3, h.f2, h.f3⟩
          have hz6 : Hid (PackAt (w5.setCell ⟨R + 1 + 1, 1 + k / 2, none⟩ (.int .u8 (bits BinOp.or IntKind.u8 OB (NB % 16 * 16)))).drew (R + 1) [0, 0, 0, 0, 0, 0, 0, 0, 0] 0) := by
            have h := hz5.out.grown (grownBy_setCell w5 ⟨R + 1 + 1, 1 + k / 2, none⟩ (.int .u8 (bits BinOp.or IntKind.u8 OB (NB % 16 * 16)))) (some_ne (show R + 1 ≠ R + 1 + 1 by omega))
            exact ⟨h.len, h.c, h.ca, h.fz⟩
          have hb6 : Below R w (w5.setCell ⟨R + 1 + 1, 1 + k / 2, none⟩ (.int .u8 (bits BinOp.or IntKind.u8 OB (NB % 16 * 16)))).drew := (hb5.setCell (by simp; omega) _).drew
          generalize (w5.setCell ⟨R + 1 + 1, 1 + k / 2, none⟩ (.int .u8 (bits BinOp.or IntKind.u8 OB (NB % 16 * 16)))).drew = w6 at hp6 hr6 hz6 hb6 ⊢
          clear hb5 hV c5 f5
          go_wp2
          go_roundw
          case rel => exact ⟨k + 1, by omega, by go_num, hr6, hp6, hz6, hb6⟩
          case measure => simp [intOf]; omega
        · have HK2 := Lib.hid hk2
          go_region
          have hV : bits BinOp.or IntKind.u8 OB (NB % 16) = byteE (nibE sh f s p q) (k + 1) (k / 2) := by
            have hev := byteE_odd (nibE sh f s p q) k (by have := HK2.out; omega)
            rw [HOB.out, HNB.out] at hev
            rw [hev.2]; exact or_odd OB NB hob.1 hob.2 hev.1
          have hp6 : Hid (PackAt (w5.setCell ⟨R + 1 + 1, 1 + k / 2, none⟩ (.int .u8 (bits BinOp.or IntKind.u8 OB (NB % 16)))).drew (R + 1 + 1) (blockE head (nibE sh f s p q) (k + 1)) (apartE sh f s p q (k + 1))) := by
            have h := HP5.out.setByte (1 + k / 2) (by omega) (bits BinOp.or IntKind.u8 OB (NB % 16))
            rw [HA1.out]
            have hset := blockE_set head (nibE sh f s p q) k hlt
            rw [← hV] at hset
            rw [← hset]
            exact ⟨h.len, h.c, h.ca, h.fz⟩
          have hr6 : Hid (RowAt (w5.setCell ⟨R + 1 + 1, 1 + k / 2, none⟩ (.int .u8 (bits BinOp.or IntKind.u8 OB (NB % 16)))).drew R sh f (eP sh f s p q (k + 1)).1 (eP sh f s p q (k + 1)).2) := by
            have h := hr5.out.grown (grownBy_setCell w5 ⟨R + 1 + 1, 1 + k / 2, none⟩ (.int .u8 (bits BinOp.or IntKind.u8 OB (NB % 16)))) (some_ne (show R ≠ R + 1 + 1 by omega))
            rw [HS2.out, HQ1.out]
            exact ⟨h.c0, h.c1, h.c2, h.c3, h.f2, h.f3⟩
          have hz6 : Hid (PackAt (w5.setCell ⟨R + 1 + 1, 1 + k / 2, none⟩ (.int .u8 (bits BinOp.or IntKind.u8 OB (NB % 16)))).drew (R + 1) [0, 0, 0, 0, 0, 0, 0, 0, 0] 0) := by
            have h := hz5.out.grown (grownBy_setCell w5 ⟨R + 1 + 1, 1 + k / 2, none⟩ (.int .u8 (bits BinOp.or IntKind.u8 OB (NB % 16)))) (some_ne (show R + 1 ≠ R + 1 + 1 by omega))
            exact ⟨h.len, h.c, h.ca, h.fz⟩
          have hb6 : Below R w (w5.setCell ⟨R + 1 + 1, 1 + k / 2, none⟩ (.int .u8 (bits BinOp.or IntKind.u8 OB (NB % 16)))).drew := (hb5.setCell (by simp; omega) _).drew
          generalize (w5.setCell ⟨R + 1 + 1, 1 + k / 2, none⟩ (.int .u8 (bits BinOp.or IntKind.u8 OB (NB % 16)))).drew = w6 at hp6 hr6 hz6 hb6 ⊢
          clear hb5 hV c5 f5
          go_wp2
          go_roundw
          case rel => exact ⟨k + 1, by omega, by go_num, hr6, hp6, hz6, hb6⟩
          case measure => simp [intOf]; omega
      · obtain rfl : k = 16 := by omega
        obtain ⟨B, hB⟩ : ∃ B : Nat → Int, ∀ i, (blockE head (nibE sh f s p q) 16)[i]?.getD 0 = B i := ⟨_, fun _ => rfl⟩
        have hpc : ∀ i, i < 9 → wr.cell? ⟨R + 1 + 1, i, none⟩ = some (.int .u8 (B i)) := fun i hi => by rw [← hB]; exact hpk.out.c i hi
        have c0 := hpc 0 (by omega)
        have c1 := hpc 1 (by omega)
        have c2 := hpc 2 (by omega)
        have c3 := hpc 3 (by omega)
        have c4 := hpc 4 (by omega)
        have c5 := hpc 5 (by omega)
        have c6 := hpc 6 (by omega)
        have c7 := hpc 7 (by omega)
        have c8 := hpc 8 (by omega)
        have c9 := hpk.out.ca
        have z0 : wr.cell? ⟨R + 1, 0, none⟩ = some (.int .u8 0) := hz.out.c 0 (by omega)
        have z1 : wr.cell? ⟨R + 1, 1, none⟩ = some (.int .u8 0) := hz.out.c 1 (by omega)
        have z2 : wr.cell? ⟨R + 1, 2, none⟩ = some (.int .u8 0) := hz.out.c 2 (by omega)
        have z3 : wr.cell? ⟨R + 1, 3, none⟩ = some (.int .u8 0) := hz.out.c 3 (by omega)
        have z4 : wr.cell? ⟨R + 1, 4, none⟩ = some (.int .u8 0) := hz.out.c 4 (by omega)
        have z5 : wr.cell? ⟨R + 1, 5, none⟩ = some (.int .u8 0) := hz.out.c 5 (by omega)
        have z6 : wr.cell? ⟨R + 1, 6, none⟩ = some (.int .u8 0) := hz.out.c 6 (by omega)
        have z7 : wr.cell? ⟨R + 1, 7, none⟩ = some (.int .u8 0) := hz.out.c 7 (by omega)
        have z8 : wr.cell? ⟨R + 1, 8, none⟩ = some (.int .u8 0) := hz.out.c 8 (by omega)
        have z9 := hz.out.ca
        have y0 := hz.out.fz 0
        have y1 := hz.out.fz 1
        have y2 := hz.out.fz 2
        have y3 := hz.out.fz 3
        have y4 := hz.out.fz 4
        have y5 := hz.out.fz 5
        have y6 := hz.out.fz 6
        have y7 := hz.out.fz 7
        have y8 := hz.out.fz 8
        have y9 := hz.out.fz 9
        have HB := Lib.hid hB
        clear hpc hB hpk hrow
        have hf : PackAt ((((((((((wr.setCell ⟨R + 1, 0, none⟩ (.int .u8 (B 0))).setCell ⟨R + 1, 1, none⟩ (.int .u8 (B 1))).setCell ⟨R + 1, 2, none⟩ (.int .u8 (B 2))).setCell ⟨R + 1, 3, none⟩ (.int .u8 (B 3))).setCell ⟨R + 1, 4, none⟩ (.int .u8 (B 4))).setCell ⟨R + 1, 5, none⟩ (.int .u8 (B 5))).setCell ⟨R + 1, 6, none⟩ (.int .u8 (B 6))).setCell ⟨R + 1, 7, none⟩ (.int .u8 (B 7))).setCell ⟨R + 1, 8, none⟩ (.int .u8 (B 8))).setCell ⟨R + 1, 9, none⟩ (.int .i64 (apartE sh f s p q 16))) (R + 1) [B 0, B 1, B 2, B 3, B 4, B 5, B 6, B 7, B 8] (apartE sh f s p q 16) := ((((((((((hz.out.setByte 0 (by omega) (B 0)).setByte 1 (by omega) (B 1)).setByte 2 (by omega) (B 2)).setByte 3 (by omega) (B 3)).setByte 4 (by omega) (B 4)).setByte 5 (by omega) (B 5)).setByte 6 (by omega) (B 6)).setByte 7 (by omega) (B 7)).setByte 8 (by omega) (B 8)).setApart (apartE sh f s p q 16))
        have hbf : Below R w ((((((((((wr.setCell ⟨R + 1, 0, none⟩ (.int .u8 (B 0))).setCell ⟨R + 1, 1, none⟩ (.int .u8 (B 1))).setCell ⟨R + 1, 2, none⟩ (.int .u8 (B 2))).setCell ⟨R + 1, 3, none⟩ (.int .u8 (B 3))).setCell ⟨R + 1, 4, none⟩ (.int .u8 (B 4))).setCell ⟨R + 1, 5, none⟩ (.int .u8 (B 5))).setCell ⟨R + 1, 6, none⟩ (.int .u8 (B 6))).setCell ⟨R + 1, 7, none⟩ (.int .u8 (B 7))).setCell ⟨R + 1, 8, none⟩ (.int .u8 (B 8))).setCell ⟨R + 1, 9, none⟩ (.int .i64 (apartE sh f s p q 16))) := ((((((((((hbr.setCell (p := ⟨R + 1, 0, none⟩) (by simp) (.int .u8 (B 0))).setCell (p := ⟨R + 1, 1, none⟩) (by simp) (.int .u8 (B 1))).setCell (p := ⟨R + 1, 2, none⟩) (by simp) (.int .u8 (B 2))).setCell (p := ⟨R + 1, 3, none⟩) (by simp) (.int .u8 (B 3))).setCell (p := ⟨R + 1, 4, none⟩) (by simp) (.int .u8 (B 4))).setCell (p := ⟨R + 1, 5, none⟩) (by simp) (.int .u8 (B 5))).setCell (p := ⟨R + 1, 6, none⟩) (by simp) (.int .u8 (B 6))).setCell (p := ⟨R + 1, 7, none⟩) (by simp) (.int .u8 (B 7))).setCell (p := ⟨R + 1, 8, none⟩) (by simp) (.int .u8 (B 8))).setCell (p := ⟨R + 1, 9, none⟩) (by simp) (.int .i64 (apartE sh f s p q 16)))
        have HF := Lib.hid hf
        have HBF := Lib.hid hbf
        clear hf hbf
        go_wp2
        have hf := HF.out
        have hbf := HBF.out
        clear HF HBF c0 c1 c2 c3 c4 c5 c6 c7 c8 c9 z0 z1 z2 z3 z4 z5 z6 z7 z8 z9 y0 y1 y2 y3 y4 y5 y6 y7 y8 y9
        generalize ((((((((((wr.setCell ⟨R + 1, 0, none⟩ (.int .u8 (B 0))).setCell ⟨R + 1, 1, none⟩ (.int .u8 (B 1))).setCell ⟨R + 1, 2, none⟩ (.int .u8 (B 2))).setCell ⟨R + 1, 3, none⟩ (.int .u8 (B 3))).setCell ⟨R + 1, 4, none⟩ (.int .u8 (B 4))).setCell ⟨R + 1, 5, none⟩ (.int .u8 (B 5))).setCell ⟨R + 1, 6, none⟩ (.int .u8 (B 6))).setCell ⟨R + 1, 7, none⟩ (.int .u8 (B 7))).setCell ⟨R + 1, 8, none⟩ (.int .u8 (B 8))).setCell ⟨R + 1, 9, none⟩ (.int .i64 (apartE sh f s p q 16))) = wf at hf hbf ⊢
        have c0 : wf.cell? ⟨R + 1, 0, none⟩ = some (.int .u8 (B 0)) := hf.c 0 (by omega)
        have c1 : wf.cell? ⟨R + 1, 1, none⟩ = some (.int .u8 (B 1)) := hf.c 1 (by omega)
        have c2 : wf.cell? ⟨R + 1, 2, none⟩ = some (.int .u8 (B 2)) := hf.c 2 (by omega)
        have c3 : wf.cell? ⟨R + 1, 3, none⟩ = some (.int .u8 (B 3)) := hf.c 3 (by omega)
        have c4 : wf.cell? ⟨R + 1, 4, none⟩ = some (.int .u8 (B 4)) := hf.c 4 (by omega)
        have c5 : wf.cell? ⟨R + 1, 5, none⟩ = some (.int .u8 (B 5)) := hf.c 5 (by omega)
        have c6 : wf.cell? ⟨R + 1, 6, none⟩ = some (.int .u8 (B 6)) := hf.c 6 (by omega)
        have c7 : wf.cell? ⟨R + 1, 7, none⟩ = some (.int .u8 (B 7)) := hf.c 7 (by omega)
        have c8 : wf.cell? ⟨R + 1, 8, none⟩ = some (.int .u8 (B 8)) := hf.c 8 (by omega)
        have c9 := hf.ca
        refine bodyPost_ret (v := .agg #[.int .u8 (B 0), .int .u8 (B 1), .int .u8 (B 2), .int .u8 (B 3), .int .u8 (B 4), .int .u8 (B 5), .int .u8 (B 6), .int .u8 (B 7), .int .u8 (B 8), .int .i64 (apartE sh f s p q 16)])
          (by simp [results, Try.results33, go_sem, c0, c1, c2, c3, c4, c5, c6, c7, c8, c9]) rfl ?_
        refine ⟨?_, by have := HRR.out; subst this; exact hbf⟩
        unfold packV
        simp only [HB.out]
end Go.Proofs.Ytpmmnjmlnjdkjaa
