/- The law's own blank cartridge is made and read; what cart.Read gives at a cartridge that is made. -/
import Derived.Test.YtjaeglllijafkaaDoorProg
import Derived.Test.YtjaeglllijafkaaDoorCartReadsLaw
import Derived.Test.YtjaeglllijafkaaDoorCartMakeAny
import Derived.Test.YtjaeglllijafkaaDoorCartBackPlain
import Derived.Deep.CutBlock
namespace Go.Proofs.YtjaeglllijafkaaDoor
open Go.RowKit
set_option linter.unusedVariables false
set_option linter.unusedSimpArgs false

def aB : ByteArray := ⟨#[65]⟩
theorem zerosF (n : Nat) : Fits .u8 (List.replicate n 0) := zeros_u8 n
/-- What is read of what was made. -/
theorem read_made (hread : ReadSays) {l ch : Int} {n : Nat} {ram : Int} {ti : ByteArray} {rs : Int} (g : GoodC l ch n ram ti rs) (xs : List Int) (hn : xs.length = n) (hf : Fits .u8 xs) (fa : Bool) (c0 : 0 ≤ ch) (rs1 : rs ≤ 65535)
    (ha : Alone (madeN xs (placeN l).toNat ti l fa ch ram rs) n l) (P ss : List Int) (hP : P = [] ∨ P.length = 512) (hPF : Fits .u8 P) (q : Nat) (hq : ss.length = q) (hq2 : q ≤ 140737488355328) (hok : q = 8192 ∨ ch ≠ 1)
    (a : Option Addr) (N c : Nat) (hN : (P ++ madeN xs (placeN l).toNat ti l fa ch ram rs).length = N) (sa : Option Addr) (sc : Nat) (w : World) (h1 : Row .u8 w (.slice a N c) (P ++ madeN xs (placeN l).toNat ti l fa ch ram rs)) (h2 : Row .u8 w (.slice sa q sc) ss) :
    Calls Tryd.prog 14 #[.slice a N c, .slice sa q sc] w fun e w' => ∃ rv sv, e = .returned (.tuple #[.agg #[.int .u8 l, .int .u8 ch, rv, .int .i64 ram, .string ti, .int .u16 rs, .bool fa, sv], .int .i64 0]) ∧ w'.ownsRow w.heap.size 5 1 rv n ((madeN xs (placeN l).toNat ti l fa ch ram rs).map (Value.int .u8)) ∧ w'.ownsRow w.heap.size 5 1 sv (if ch = 1 then ss else []).length ((if ch = 1 then ss else []).map (Value.int .u8)) ∧ Below w.heap.size w w' := by
  have hr := (g.read xs hn fa c0 rs1 ha ss).1 (hok.elim (fun h => .inl (hq.trans h)) .inr)
  have hfm := made_fits xs hf (placeN l).toNat ti l fa ch ram rs g.rz (by have := g.rs0; omega) rs1
  have hlm := madeN_length xs (placeN l).toNat ti l fa ch ram rs
  obtain ⟨M, hM⟩ : ∃ M, madeN xs (placeN l).toNat ti l fa ch ram rs = M := ⟨_, rfl⟩
  rw [hM] at hr hfm hlm hN h1 ⊢
  have ht : tailN (P ++ M) = M := by
    rcases hP with rfl | hP
    · exact (g.tail (hlm.trans hn)).1
    · exact (g.tail (hlm.trans hn)).2 P hP
  have hN2 : N ≤ 281474976710656 := by
    have := g.n1
    rw [List.length_append] at hN
    rcases hP with rfl | hP
    · simp at hN; omega
    · omega
  refine (hread a N c sa q sc (P ++ M) ss w h1 hN (fun x hx => (List.mem_append.1 hx).elim (hPF x) (hfm x)) hN2 h2 hq hq2).mono ?_
  rintro e w' ⟨rv, sv, rfl, k1, k2, k3⟩
  rw [ht, hr.1, hr.2] at *
  rw [show (backC M l ch ram ti rs fa ss).rom = M from rfl, hlm, hn] at k1
  exact ⟨rv, sv, rfl, k1, k2, k3⟩
/-- A wrong signal is refused. -/
theorem read_wrong (hread : ReadSays) {l : Int} {n : Nat} {ram : Int} {ti : ByteArray} {rs : Int} (g : GoodC l 1 n ram ti rs) (xs : List Int) (hn : xs.length = n) (hf : Fits .u8 xs) (fa : Bool) (rs1 : rs ≤ 65535)
    (ha : Alone (madeN xs (placeN l).toNat ti l fa 1 ram rs) n l) (ss : List Int) (q : Nat) (hq : ss.length = q) (hq2 : q ≤ 140737488355328) (hno : q ≠ 8192)
    (a : Option Addr) (c : Nat) (sa : Option Addr) (sc : Nat) (w : World) (h1 : Row .u8 w (.slice a n c) (madeN xs (placeN l).toNat ti l fa 1 ram rs)) (h2 : Row .u8 w (.slice sa q sc) ss) :
    Calls Tryd.prog 14 #[.slice a n c, .slice sa q sc] w fun e w' => ∃ v, e = .returned (.tuple #[v, .int .i64 34]) ∧ Below w.heap.size w w' := by
  have hr := (g.read xs hn fa (by omega) rs1 ha ss).2 (by rw [hq]; exact hno) rfl
  have hfm := made_fits xs hf (placeN l).toNat ti l fa 1 ram rs g.rz (by have := g.rs0; omega) rs1
  have hlm := madeN_length xs (placeN l).toNat ti l fa 1 ram rs
  obtain ⟨M, hM⟩ : ∃ M, madeN xs (placeN l).toNat ti l fa 1 ram rs = M := ⟨_, rfl⟩
  rw [hM] at hr hfm hlm h1
  have ht := (g.tail (hlm.trans hn)).1
  refine (hread a n c sa q sc M ss w h1 (hlm.trans hn) hfm (by have := g.n1; omega) h2 hq hq2).mono ?_
  rintro e w' ⟨rv, sv, rfl, k1, k2, k3⟩
  rw [ht, hr]
  exact ⟨_, rfl, k3⟩
theorem read_wrong1 (hread : ReadSays) {l ch : Int} {n : Nat} {ram : Int} {ti : ByteArray} {rs : Int} (hch : ch = 1) (g : GoodC l ch n ram ti rs) (xs : List Int) (hn : xs.length = n) (hf : Fits .u8 xs) (fa : Bool) (rs1 : rs ≤ 65535)
    (ha : Alone (madeN xs (placeN l).toNat ti l fa ch ram rs) n l) (ss : List Int) (q : Nat) (hq : ss.length = q) (hq2 : q ≤ 140737488355328) (hno : q ≠ 8192)
    (a : Option Addr) (c : Nat) (sa : Option Addr) (sc : Nat) (w : World) (h1 : Row .u8 w (.slice a n c) (madeN xs (placeN l).toNat ti l fa ch ram rs)) (h2 : Row .u8 w (.slice sa q sc) ss) :
    Calls Tryd.prog 14 #[.slice a n c, .slice sa q sc] w fun e w' => ∃ v, e = .returned (.tuple #[v, .int .i64 34]) ∧ Below w.heap.size w w' := by
  subst hch
  exact read_wrong hread g xs hn hf fa rs1 ha ss q hq hq2 hno a c sa sc w h1 h2
theorem blank_good : GoodC 1 0 32768 0 aB 32768 :=
  ⟨by decide, by decide, by decide, by decide, by decide, by decide, by decide, by decide, by decide, by decide, by decide, by decide⟩
theorem blank_alone (M : List Int) : Alone M 32768 1 := by
  intro m h1 h2 h3 h4
  have : m = 2 ∨ m = 3 := by omega
  rcases this with rfl | rfl
  · exact absurd h4 (by decide)
  · exact absurd h4 (by decide)

set_option maxRecDepth 100000 in
set_option maxHeartbeats 4000000 in
theorem blank_walk (hread : ReadSays) (w : World) : Calls Tryd.prog 18 #[] w fun e w' => e = .returned (.bool true) ∧ Below w.heap.size w w' := by
  obtain ⟨i0, hi, hz0, hz1, hz2⟩ := info_parts Tryd.infoU8c
  have hi' := Lib.hid hi
  have hz0' := Lib.hid hz0
  have hz1' := Lib.hid hz1
  have HB2 := Lib.hid (show i0.bytes * 32768 ≤ 281474976710656 by rw [hz2]; decide)
  obtain ⟨xs, hxs⟩ : ∃ xs : List Int, List.replicate 32768 0 = xs := ⟨_, rfl⟩
  have HM := Lib.hid (show (madeCells (Value.int .u8 0).cells (32768 * 1)).toList = xs.map (Value.int .u8) by
    rw [← hxs, Nat.mul_one, show (Value.int IntKind.u8 0).cells = #[Value.int .u8 0] from rfl, toList_madeCells_one, List.map_replicate])
  have HL := Lib.hid (show xs.length = 32768 by rw [← hxs, List.length_replicate])
  have HF := Lib.hid (show Fits .u8 xs by rw [← hxs]; exact zerosF _)
  clear hxs hi hz0 hz1 hz2
  have HMK := Lib.hid (fun ra rc W (hr : Row .u8 W (.slice ra 32768 rc) xs) => make_any 1 0 ra 32768 rc 0 aB 32768 false none 0 0 W (by decide) (by decide) (by decide) (by decide) (by decide) xs hr HL.out)
  have hcode : codeN 1 0 32768 0 aB 32768 = 0 := by decide
  have hout : outN 1 0 32768 0 aB 32768 false xs = madeN xs (placeN 1).toNat aB 1 false 0 0 32768 := by
    unfold outN
    rw [if_neg (by decide)]
  rw [hcode, hout, madeN_length, HL.out] at HMK
  have HRD := Lib.hid (fun a c W h1 => read_made hread blank_good xs HL.out HF.out false (by decide) (by decide) (blank_alone _) [] [] (.inl rfl) (fun x hx => by cases hx) 0 rfl (by decide) (.inr (by decide)) a 32768 c (by rw [List.nil_append, madeN_length, HL.out]) none 0 W h1 (Row.nil _ _))
  have HGA := Lib.hid (made_get xs 32704 aB 1 false 0 0 32768 (by rw [HL.out]; decide) (by decide) 0 (by omega))
  have HGB := Lib.hid (made_get xs 32704 aB 1 false 0 0 32768 (by rw [HL.out]; decide) (by decide) 1 (by omega))
  have HML := Lib.hid (show (madeN xs (placeN 1).toNat aB 1 false 0 0 32768).length = 32768 by rw [madeN_length, HL.out])
  rw [show (placeN 1).toNat = 32704 from rfl] at HML HMK HRD
  rw [show cardB aB 1 false 0 0 32768 (sumM xs 32704 aB 1 false 0 0 32768) 0 = 65 from rfl] at HGA
  rw [show cardB aB 1 false 0 0 32768 (sumM xs 32704 aB 1 false 0 0 32768) 1 = 32 from rfl] at HGB
  obtain ⟨M, hM⟩ : ∃ M, madeN xs 32704 aB 1 false 0 0 32768 = M := ⟨_, rfl⟩
  rw [hM] at HGA HGB HML HMK HRD
  clear hcode hout hM hread
  unfold aB at HMK HRD
  simp only [List.nil_append] at HRD
  go_enter Tryd.func18, Tryd.ntmps18
  go_upto_region 2 with (first | (refine wpList_make_full _ rfl _ _ _ rfl w.heap.size 5 i0 (.int .u8 0) 1 Tryd.underlying28 hi'.out hz0'.out hz1'.out .i64 .i64 _ _ 32768 rfl rfl rfl rfl HB2.out (by decide) (Nat.le_refl _) ?_; intro w1 hown hgrow; rw [HM.out] at hown; have HO := Lib.hid hown; have HB1 := Lib.hid (show Below w.heap.size w w1 from (Below.refl _ _).grown hgrow (Nat.le_refl _) (fun k h => by cases h)); clear hown hgrow) | (go_at_call 19; refine (HMK.out _ _ _ (Row.owned HO.out).1).mono ?_; rintro e w2 ⟨r, rfl, ho, hb⟩; obtain ⟨a2, c2, rfl⟩ := owns_sliced ho))
  have HR2 := Lib.hid (Row.owned ho).1
  have HB2' := Lib.hid (HB1.out.trans (hb.mono HB1.out.size))
  obtain ⟨b, o, c3, hra, hcc, hcm, hrc⟩ := HR2.out.cells (by rw [HML.out]; decide)
  injection hra with hr1 hr2 hr3
  subst hr1 hr3
  have e1 := hrc 32704 (by rw [HML.out]; decide)
  have e2 := hrc 32705 (by rw [HML.out]; decide)
  rw [show M[32704]?.getD 0 = 65 from HGA.out] at e1
  rw [show M[32705]?.getD 0 = 32 from HGB.out] at e2
  have hc4 : 32768 ≤ c2 := by omega
  clear hrc hcc ho hb hr2
  go_upto_region 4 with fail
  go_upto_region 5 with (go_at_call 14; refine (HRD.out _ _ _ (by exact HR2.out)).mono ?_; rintro e w3 ⟨rv, sv, rfl, k1, k2, hb⟩; rw [show (if (0 : Int) = 1 then ([] : List Int) else []) = [] from rfl] at k2; obtain ⟨ag, cg, rfl⟩ := owns_sliced k1; obtain ⟨ah, ch, rfl⟩ := owns_sliced k2)
  have hbx := cart_boxed w3 1 0 (.slice ag 32768 cg) 0 ⟨#[65]⟩ 32768 false (.slice ah 0 ch)
  have c0 := hbx.c0
  have c1 := hbx.c1
  have c2 := hbx.c2
  have c3 := hbx.c3
  have c4 := hbx.c4
  have c5 := hbx.c5
  have HB3 := Lib.hid ((HB2'.out.trans (hb.mono HB2'.out.size)).alloc (Nat.le_trans HB2'.out.size hb.size) (.cells #[.int .u8 1, .int .u8 0, .slice ag 32768 cg, .int .i64 0, .string ⟨#[65]⟩, .int .u16 32768, .bool false, .slice ah 0 ch] 36))
  clear hb k1 k2
  go_wp2_with fail
  go_returns
  exact ⟨rfl, HB3.out⟩
end Go.Proofs.YtjaeglllijafkaaDoor
