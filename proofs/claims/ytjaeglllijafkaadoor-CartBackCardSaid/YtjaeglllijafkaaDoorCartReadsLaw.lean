/- CartReads: whatever bytes are, they are the cartridge that the document says, or refused: the law, walked. -/
import Derived.Test.YtjaeglllijafkaaDoorProg
import Derived.Test.YtjaeglllijafkaaDoorCartSame
import Derived.Test.YtjaeglllijafkaaDoorCartOpen
import Derived.Test.YtjaeglllijafkaaDoorCopy
namespace Go.Proofs.YtjaeglllijafkaaDoor
open Go.RowKit
set_option linter.unusedVariables false
set_option linter.unusedSimpArgs false

def ReadSays : Prop := ∀ (a : Option Addr) (n c : Nat) (sa : Option Addr) (sn sc : Nat) (xs ss : List Int) (w : World), Row .u8 w (.slice a n c) xs → xs.length = n → Fits .u8 xs → n ≤ 281474976710656 → Row .u8 w (.slice sa sn sc) ss → ss.length = sn → sn ≤ 140737488355328 →
    Calls Tryd.prog 14 #[.slice a n c, .slice sa sn sc] w fun e w' => ∃ rv sv, e = .returned (.tuple #[(readC (tailN xs) ss).v rv sv, .int .i64 (readE (tailN xs) ss.length)]) ∧ w'.ownsRow w.heap.size 5 1 rv (readC (tailN xs) ss).rom.length ((readC (tailN xs) ss).rom.map (Value.int .u8)) ∧ w'.ownsRow w.heap.size 5 1 sv (readC (tailN xs) ss).sig.length ((readC (tailN xs) ss).sig.map (Value.int .u8)) ∧ Below w.heap.size w w'
def RefReadSays : Prop := ∀ (a : Option Addr) (n c : Nat) (sa : Option Addr) (sn sc : Nat) (xs ss : List Int) (w : World), Row .u8 w (.slice a n c) xs → xs.length = n → Fits .u8 xs → n ≤ 281474976710656 → Row .u8 w (.slice sa sn sc) ss → ss.length = sn → sn ≤ 140737488355328 →
    Calls Tryd.prog 12 #[.slice a n c, .slice sa sn sc] w fun e w' => ∃ rv sv, e = .returned (.tuple #[(readC (tailN xs) ss).v rv sv, .int .i64 (readE (tailN xs) ss.length)]) ∧ Row .u8 w' rv (readC (tailN xs) ss).rom ∧ Row .u8 w' sv (readC (tailN xs) ss).sig ∧ Below w.heap.size w w'

theorem owns_cellc {lo e G n cap : Nat} {xs : List Int} {w : World} (h : w.ownsRow lo e 1 (.slice (some ⟨G, 0, none⟩) n cap) n (xs.map (Value.int .u8))) (j : Nat) (hj : j < n) : w.cell? ⟨G, j, none⟩ = some (.int .u8 (xs[j]?.getD 0)) := by
  have hl : xs.length = n := by have := h.1; simpa using this
  rw [h.cellAt j (by omega), List.getElem?_map, List.getElem?_eq_getElem (by omega)]; rfl
theorem cell_same {w w' : World} {p : Addr} (h : w'.heap[p.block]? = w.heap[p.block]?) : w'.cell? p = w.cell? p := by
  unfold World.cell?
  rw [h]
theorem CartAt.same {W W' : World} {P : Nat} {l ch : Int} {rv : Value} {ram : Int} {ti : ByteArray} {rs : Int} {fa : Bool} {sg : Value} (h : CartAt W P l ch rv ram ti rs fa sg) (hb : W'.heap[P]? = W.heap[P]?) : CartAt W' P l ch rv ram ti rs fa sg :=
  ⟨(cell_same hb).trans h.c0, (cell_same hb).trans h.c1, (cell_same hb).trans h.c2, (cell_same hb).trans h.c3, (cell_same hb).trans h.c4, (cell_same hb).trans h.c5, (cell_same hb).trans h.c6, (cell_same hb).trans h.c7⟩
/-- The signal's bytes. -/
def sigN (g : Int) : Nat := if g < 0 ∨ 9000 < g then 8192 else g.toNat
theorem sigN_le (g : Int) : sigN g ≤ 9000 := by unfold sigN; split <;> omega
def sigK (n k : Nat) : List Int := (List.range k).map (fun i : Nat => (i : Int) % 256) ++ List.replicate (n - k) 0
theorem sigK_length (n k : Nat) (h : k ≤ n) : (sigK n k).length = n := by simp [sigK]; omega
theorem sigK_zero (n : Nat) : sigK n 0 = List.replicate n 0 := by simp [sigK]
theorem sigK_set (n k : Nat) (h : k < n) : (sigK n k).set k ((k : Int) % 256) = sigK n (k + 1) := by
  unfold sigK
  rw [show n - k = (n - (k + 1)) + 1 by omega, List.replicate_succ, List.set_append_right _ _ (by simp), List.range_succ, List.map_append]
  simp
theorem sigK_fits (n : Nat) : Fits .u8 (sigK n n) := by
  intro x hx
  unfold sigK at hx
  rw [Nat.sub_self] at hx
  simp only [List.replicate_zero, List.append_nil] at hx
  obtain ⟨i, -, rfl⟩ := List.mem_map.1 hx
  exact u8_wf (by omega) (by omega)
theorem owns_row {w : World} {lo : Nat} {v : Value} {n : Nat} {xs : List Int} (h : w.ownsRow lo 5 1 v n (xs.map (Value.int .u8))) : Row .u8 w v xs ∧ xs.length = n := Row.owned h
theorem row_slice {w : World} {v : Value} {xs : List Int} (h : Row .u8 w v xs) : ∃ a c, v = .slice a xs.length c := h.shape
theorem wrap_u8 (k : Nat) : IntKind.u8.wrap (k : Int) = (k : Int) % 256 := by simp [IntKind.wrap, IntKind.signed, IntKind.bits]

set_option maxRecDepth 100000 in
set_option maxHeartbeats 4000000 in
theorem walk_reads (href : RefReadSays) (hread : ReadSays) (size by_ : Int) (pv : Value) (ps : List (Int × List Int)) (g : Int) (w : World) (hp : Patches w pv ps) (hpf : ∀ p ∈ ps, Fits .u8 p.2) (b0 : 0 ≤ by_) (b1 : by_ ≤ 255) :
    Calls Tryd.prog 4 #[.agg #[.int .i64 size, .int .u8 by_, pv], .int .i64 g] w fun e w' => e = .returned (.bool true) ∧ Below w.heap.size w w' := by
  have HREF := Lib.hid href
  have HREAD := Lib.hid hread
  have HP := Lib.hid hp
  have HFX := Lib.hid (imageN_fits size by_ hpf)
  have HLX := Lib.hid (imageN_length size by_ ps)
  have hle := sizeN_le size
  obtain ⟨xs, hxs⟩ : ∃ xs, imageN size by_ ps = xs := ⟨_, rfl⟩
  have HXS := Lib.hid hxs
  rw [hxs] at HFX HLX
  obtain ⟨n, hn⟩ : ∃ n, sizeN size = n := ⟨_, rfl⟩
  rw [hn] at hle HLX
  have HN := Lib.hid hn
  obtain ⟨i0, hi, hz0, hz1, hz2⟩ := info_parts Tryd.infoU8c
  have hi' := Lib.hid hi
  have hz0' := Lib.hid hz0
  have hz1' := Lib.hid hz1
  have hz2' := Lib.hid hz2
  have hsl := sigN_le g
  have HG1 := Lib.hid (show g < 0 ∨ 9000 < g → sigN g = 8192 from fun h => if_pos h)
  have HG2 := Lib.hid (show ¬ (g < 0 ∨ 9000 < g) → (sigN g : Int) = g from fun h => by unfold sigN; rw [if_neg h]; omega)
  obtain ⟨q, hq⟩ : ∃ q, sigN g = q := ⟨_, rfl⟩
  rw [hq] at hsl HG1 HG2
  have HMK := Lib.hid (show i0.bytes * q ≤ 281474976710656 by rw [hz2]; omega)
  have HMD := Lib.hid (show (madeCells (Value.int .u8 0).cells (q * 1)).toList = (sigK q 0).map (Value.int .u8) by
    rw [sigK_zero, Nat.mul_one, show (Value.int IntKind.u8 0).cells = #[Value.int .u8 0] from rfl, toList_madeCells_one]; simp)
  clear hp hpf hxs hn hi hz0 hz1 hz2 hq href hread
  go_enter Tryd.func4, Tryd.ntmps4
  go_upto_region 1 with fail
  obtain ⟨wB, hwB⟩ : ∃ wB, w.alloc (.cells #[.int .i64 size, .int .u8 by_, pv] 24) = wB := ⟨_, rfl⟩
  have p0 : wB.cell? ⟨w.heap.size, 0, none⟩ = some (.int .i64 size) := by rw [← hwB]; simp [go_sem]
  have p1 : wB.cell? ⟨w.heap.size, 1, none⟩ = some (.int .u8 by_) := by rw [← hwB]; simp [go_sem]
  have p2 : wB.cell? ⟨w.heap.size, 2, none⟩ = some pv := by rw [← hwB]; simp [go_sem]
  have HBB := Lib.hid (show Below w.heap.size w wB by rw [← hwB]; exact (Below.refl _ w).alloc (Nat.le_refl _) _)
  rw [hwB]
  clear hwB
  go_upto_region 2 with (go_at_call 7; refine (image_any size by_ pv ps wB (HP.out.below HBB.out) b0 b1).mono ?_; rintro e w1 ⟨r1, rfl, ho, hb⟩; rw [HXS.out, HN.out] at ho; obtain ⟨a1, k1, rfl⟩ := owns_sliced ho)
  have HR1 := Lib.hid (Row.owned ho).1
  have HB1 := Lib.hid (HBB.out.trans (hb.mono HBB.out.size))
  clear p0 p1 p2 HBB ho hb
  go_cut [21] (fun s21 wx => s21 = .bool (decide (g < 0 ∨ 9000 < g)) ∧ w1 = wx)
  case first =>
    by_cases hs : g < 0
    · have E := Lib.hid (show decide (g < 0 ∨ 9000 < g) = true from decide_eq_true (.inl hs))
      go_wp2_with fail
      go_meet
      exact ⟨by rw [E.out], rfl⟩
    · have E := Lib.hid (show decide (g < 0 ∨ 9000 < g) = decide (9000 < g) by rw [decide_eq_decide]; omega)
      go_wp2_with fail
      all_goals
        go_meet
        exact ⟨by rw [E.out], rfl⟩
  case rest =>
    obtain ⟨rfl, rfl⟩ := hcut
    go_upto_if 21 with fail
    go_cut [1] (fun s1 wx => s1 = .int .i64 (q : Int) ∧ w1 = wx)
    case first =>
      by_cases hs : g < 0 ∨ 9000 < g
      · have E := Lib.hid (HG1.out hs)
        rw [decide_eq_true hs]
        clear hs
        go_wp2_with fail
        go_meet
        exact ⟨by rw [E.out]; rfl, rfl⟩
      · have E := Lib.hid (HG2.out hs)
        rw [decide_eq_false hs]
        clear hs
        go_wp2_with fail
        go_meet
        exact ⟨by rw [E.out], rfl⟩
    case rest =>
      obtain ⟨rfl, rfl⟩ := hcut
      go_upto_region 5 with (refine wpList_make_full _ rfl _ _ _ rfl w1.heap.size 5 i0 (.int .u8 0) 1 Tryd.underlying28 hi'.out hz0'.out hz1'.out .i64 .i64 _ _ q rfl rfl (by omega) (by omega) HMK.out (by unfold maxLen; omega) (Nat.le_refl _) ?_; intro w2 hown hgrow; rw [HMD.out] at hown)
      have HO2 := Lib.hid hown
      have HB2 := Lib.hid (show Below w1.heap.size w1 w2 from (Below.refl w1.heap.size w1).grown hgrow (Nat.le_refl _) (fun k h => by cases h))
      clear hown hgrow
      obtain ⟨G, hG⟩ : ∃ G, w1.heap.size = G := ⟨_, rfl⟩
      rw [hG] at HO2 HB2 ⊢
      have HGG := Lib.hid hG
      clear hG
      go_upto_region 6 with fail
      go_loopw [7] (fun s7 wr => ∃ k : Nat, k ≤ q ∧ s7 = .int .i64 k ∧ Hid (wr.ownsRow G 5 1 (.slice (some ⟨G, 0, none⟩) q q) q ((sigK q k).map (Value.int .u8))) ∧ Hid (Below G w1 wr)) (fun s7 _ => q - (intOf s7).toNat)
      case atStart => exact ⟨0, Nat.zero_le _, rfl, HO2, HB2⟩
      case round =>
        obtain ⟨k, hk, rfl, hO, hbr⟩ := hrel
        by_cases hlt : k < q
        · have cc := owns_cellc hO.out k hlt
          have cf : wr.frozen? ⟨G, k, none⟩ = false := hO.out.frozenAt k
          obtain ⟨y, hy⟩ : ∃ y, (sigK q k)[k]?.getD 0 = y := ⟨_, rfl⟩
          rw [hy] at cc
          have hst := (hO.out.stored k (.int .u8 ((k : Int) % 256))).1
          rw [← List.map_set, sigK_set q k hlt] at hst
          have HST := Lib.hid hst
          have i1 : (k : Int) < (q : Int) := by omega
          have i2 : 0 ≤ (k : Int) := by omega
          have i3 := wrap_u8 k
          clear hy hst
          go_wp2
          go_roundw
          case rel => exact ⟨k + 1, by omega, by go_num, HST, Lib.hid (hbr.out.setCell (Nat.le_refl _) _)⟩
          case measure => simp [intOf]; omega
        · obtain rfl : q = k := by omega
          have i1 : ¬ (q : Int) < (q : Int) := by omega
          have HLS := Lib.hid (sigK_length q q (Nat.le_refl _))
          have HBa := Lib.hid (HB1.out.trans (hbr.out.mono (by rw [← HGG.out]; exact HB1.out.size)))
          have HR1a := Lib.hid (HR1.out.below (show Below w1.heap.size w1 wr by rw [HGG.out]; exact hbr.out))
          have HR2a := Lib.hid (Row.owned hO.out).1
          obtain ⟨ss, hss⟩ : ∃ ss, sigK q q = ss := ⟨_, rfl⟩
          rw [hss] at HLS HR2a
          obtain ⟨wa, hwa⟩ : ∃ wa, wa = wr := ⟨_, rfl⟩
          rw [← hwa] at HBa HR1a HR2a ⊢
          have HRF := Lib.hid (HREF.out a1 n k1 (some ⟨G, 0, none⟩) q q xs ss wa HR1a.out HLX.out HFX.out (by omega) HR2a.out HLS.out (by omega))
          have HRD := Lib.hid (fun a k a' k' W (h1 : Row .u8 W (.slice a n k) xs) (h2 : Row .u8 W (.slice a' q k') ss) => HREAD.out a n k a' q k' xs ss W h1 HLX.out HFX.out (by omega) h2 HLS.out (by omega))
          clear hwa hO hbr HO2 HB2 HR1 HB1 hss HREF HREAD
          obtain ⟨er, her⟩ : ∃ er, readE (tailN xs) ss.length = er := ⟨_, rfl⟩
          obtain ⟨C, hC⟩ : ∃ C, readC (tailN xs) ss = C := ⟨_, rfl⟩
          rw [her, hC] at HRF
          simp only [her, hC] at HRD
          clear her hC
          go_upto_region 9 with fail
          clear i1
          obtain ⟨l, ch, ram, ti, rs, fa, rom, sg⟩ := C
          have HSM := Lib.hid (fun a1 c1 a2 c2 a3 c3 a4 c4 W h1 h2 h3 h4 => same_walk ⟨l, ch, ram, ti, rs, fa, rom, sg⟩ a1 c1 a2 c2 a3 c3 a4 c4 W h1 h2 h3 h4)
          unfold CartR.v at HRF HRD HSM
          simp only at HRF HRD HSM
          go_upto_region 10 with (go_at_call 12; refine HRF.out.mono ?_; rintro e w3 ⟨rv, sv, rfl, hr1, hr2, hb⟩; obtain ⟨av, cv, rfl⟩ := row_slice hr1; obtain ⟨aS, cs, rfl⟩ := row_slice hr2)
          have ha := (Below.refl w3.heap.size w3).alloc (Nat.le_refl _) (.cells #[.int .u8 l, .int .u8 ch, .slice av rom.length cv, .int .i64 ram, .string ti, .int .u16 rs, .bool fa, .slice aS sg.length cs] 36)
          have hb2 := hb.trans (ha.mono hb.size)
          have HCW := Lib.hid (cart_boxed w3 l ch (.slice av rom.length cv) ram ti rs fa (.slice aS sg.length cs))
          have HX3 := Lib.hid (HR1a.out.below hb2)
          have HS3 := Lib.hid (HR2a.out.below hb2)
          have HWR := Lib.hid (hr1.below ha)
          have HWS := Lib.hid (hr2.below ha)
          have HB3 := Lib.hid (HBa.out.trans (hb2.mono HBa.out.size))
          have HZ3 := Lib.hid (show w3.heap.size < (w3.alloc (.cells #[.int .u8 l, .int .u8 ch, .slice av rom.length cv, .int .i64 ram, .string ti, .int .u16 rs, .bool fa, .slice aS sg.length cs] 36)).heap.size by simp)
          obtain ⟨W3, hW3⟩ : ∃ W3, w3.alloc (.cells #[.int .u8 l, .int .u8 ch, .slice av rom.length cv, .int .i64 ram, .string ti, .int .u16 rs, .bool fa, .slice aS sg.length cs] 36) = W3 := ⟨_, rfl⟩
          rw [hW3] at HCW HX3 HS3 HWR HWS HB3 HZ3 ⊢
          obtain ⟨Z, hZ⟩ : ∃ Z, w3.heap.size = Z := ⟨_, rfl⟩
          rw [hZ] at HCW HZ3 ⊢
          clear ha hb hb2 hr1 hr2 hW3 hZ HRF HR1a HR2a HBa
          go_upto_region 11 with (go_at_call 13; refine (copy_any (.slice a1 n k1) xs _ HX3.out (by have := HLX.out; omega)).mono ?_; rintro e w4 ⟨r4, rfl, ho4, hb4⟩; rw [HLX.out] at ho4; obtain ⟨a4, c4, rfl⟩ := owns_sliced ho4)
          have HO4 := Lib.hid ho4
          have HB4 := Lib.hid hb4
          clear ho4 hb4
          go_upto_region 12 with (go_at_call 13; refine (copy_any (.slice (some ⟨G, 0, none⟩) q q) ss _ (HS3.out.below HB4.out) (by have := HLS.out; omega)).mono ?_; rintro e w5 ⟨r5, rfl, ho5, hb5⟩; rw [HLS.out] at ho5; obtain ⟨a5, c5, rfl⟩ := owns_sliced ho5)
          have HO5 := Lib.hid ho5
          have HB5 := Lib.hid hb5
          have HO45 := Lib.hid (owns_kept HO4.out hb5)
          have HB35 := Lib.hid (below_step HB4.out HB4.out.size hb5)
          clear ho5 hb5
          go_upto_region 13 with (go_at_call 14; refine (HRD.out a4 c4 a5 c5 _ (Row.owned HO45.out).1 (Row.owned HO5.out).1).mono ?_; rintro e w6 ⟨rv, sv, rfl, hr1, hr2, hb⟩; obtain ⟨ag, cg, rfl⟩ := owns_sliced hr1; obtain ⟨ah, chh, rfl⟩ := owns_sliced hr2)
          have ha := (Below.refl w6.heap.size w6).alloc (Nat.le_refl _) (.cells #[.int .u8 l, .int .u8 ch, .slice ag rom.length cg, .int .i64 ram, .string ti, .int .u16 rs, .bool fa, .slice ah sg.length chh] 36)
          have hb2 := hb.trans (ha.mono hb.size)
          have HCG := Lib.hid (cart_boxed w6 l ch (.slice ag rom.length cg) ram ti rs fa (.slice ah sg.length chh))
          have HGR := Lib.hid (owns_kept hr1 ha)
          have HGS := Lib.hid (owns_kept hr2 ha)
          have HO47 := Lib.hid (owns_kept HO45.out hb2)
          have HO57 := Lib.hid (owns_kept HO5.out hb2)
          have HB37 := Lib.hid (below_step HB35.out HB35.out.size hb2)
          have HZ7 := Lib.hid (show w5.heap.size ≤ w6.heap.size ∧ w6.heap.size < (w6.alloc (.cells #[.int .u8 l, .int .u8 ch, .slice ag rom.length cg, .int .i64 ram, .string ti, .int .u16 rs, .bool fa, .slice ah sg.length chh] 36)).heap.size from ⟨hb.size, by simp⟩)
          have HL4 := Lib.hid (show ∀ g c, Value.slice a4 n c4 = .slice (some ⟨g, 0, none⟩) n c → g < w4.heap.size from fun g c h => by
            have h2 := HO4.out; rw [h] at h2; exact (h2.lt g rfl).2)
          have HL5 := Lib.hid (show ∀ g c, Value.slice a5 q c5 = .slice (some ⟨g, 0, none⟩) q c → g < w5.heap.size from fun g c h => by
            have h2 := HO5.out; rw [h] at h2; exact (h2.lt g rfl).2)
          have HZ45 := Lib.hid (show W3.heap.size ≤ w4.heap.size ∧ w4.heap.size ≤ w5.heap.size from ⟨HB4.out.size, HB5.out.size⟩)
          obtain ⟨W7, hW7⟩ : ∃ W7, w6.alloc (.cells #[.int .u8 l, .int .u8 ch, .slice ag rom.length cg, .int .i64 ram, .string ti, .int .u16 rs, .bool fa, .slice ah sg.length chh] 36) = W7 := ⟨_, rfl⟩
          rw [hW7] at HCG HGR HGS HO47 HO57 HB37 HZ7 ⊢
          obtain ⟨Q, hQ⟩ : ∃ Q, w6.heap.size = Q := ⟨_, rfl⟩
          rw [hQ] at HCG HZ7 ⊢
          clear ha hb hb2 hr1 hr2 hW7 hQ HRD HO45 HB35 HO4 HB4 HO5 HB5
          go_cut [65] (fun s65 wx => s65 = .bool false ∧ ∃ k, wx = W7.drewN k)
          case first =>
            go_wp2_with fail
            go_at_call 15
            refine (bytes_any (.slice a4 n c4) (.slice a1 n k1) xs xs _ (Row.owned HO47.out).1 (HX3.out.below HB37.out)).mono ?_
            rintro e w8 ⟨rfl, n8, rfl⟩
            rw [eqB_refl]
            go_wp2_with fail
            go_at_call 15
            refine (bytes_any (.slice a5 q c5) (.slice (some ⟨G, 0, none⟩) q q) ss ss _ (show Row .u8 (W7.drewN n8) _ _ from (Row.owned HO57.out).1) (show Row .u8 (W7.drewN n8) _ _ from HS3.out.below (below_drewN HB37.out n8))).mono ?_
            rintro e w9 ⟨rfl, n9, rfl⟩
            rw [eqB_refl]
            go_wp2_with fail
            go_meet
            exact ⟨rfl, _, rfl⟩
          case rest =>
            obtain ⟨rfl, kd, rfl⟩ := hcut
            have HO47 : Hid ((W7.drewN kd).ownsRow W3.heap.size 5 1 (.slice a4 n c4) n (xs.map (Value.int .u8))) := HO47
            have HO57 : Hid ((W7.drewN kd).ownsRow w4.heap.size 5 1 (.slice a5 q c5) q (ss.map (Value.int .u8))) := HO57
            have HGR : Hid ((W7.drewN kd).ownsRow w5.heap.size 5 1 (.slice ag rom.length cg) rom.length (rom.map (Value.int .u8))) := HGR
            have HGS : Hid ((W7.drewN kd).ownsRow w5.heap.size 5 1 (.slice ah sg.length chh) sg.length (sg.map (Value.int .u8))) := HGS
            have HCG := Lib.hid (show CartAt (W7.drewN kd) Q l ch (.slice ag rom.length cg) ram ti rs fa (.slice ah sg.length chh) from ⟨HCG.out.c0, HCG.out.c1, HCG.out.c2, HCG.out.c3, HCG.out.c4, HCG.out.c5, HCG.out.c6, HCG.out.c7⟩)
            have HB38 := Lib.hid (below_drewN HB37.out kd)
            obtain ⟨W8, hW8⟩ : ∃ W8, W7.drewN kd = W8 := ⟨_, rfl⟩
            rw [hW8] at HO47 HO57 HGR HGS HCG HB38 ⊢
            clear hW8 HB37
            go_wp2_with fail
            go_at_call 16
            refine (spoil_any (.slice a4 n c4) n W3.heap.size w4.heap.size xs _ (by omega) HL4.out HO47.out).mono ?_
            rintro e w9 ⟨rfl, hsm, hb9⟩
            have HS1 := Lib.hid hsm
            have HO59 := Lib.hid (owns_but HO57.out hsm (Nat.le_refl _))
            have HGR9 := Lib.hid (owns_but HGR.out hsm HZ45.out.2)
            have HGS9 := Lib.hid (owns_but HGS.out hsm HZ45.out.2)
            have HCG9 := Lib.hid (HCG.out.same (hsm Q (.inr (by have := HZ7.out; have := HZ45.out; omega))))
            have HB39 := Lib.hid (HB38.out.trans hb9)
            clear hsm hb9 HO47 HO57 HGR HGS HCG HB38 HS1
            go_wp2_with fail
            go_at_call 16
            refine (spoil_any (.slice a5 q c5) q w4.heap.size w5.heap.size ss _ (by omega) HL5.out HO59.out).mono ?_
            rintro e w10 ⟨rfl, hsm, hb10⟩
            have HGR10 := Lib.hid (Row.owned (owns_but HGR9.out hsm (Nat.le_refl _))).1
            have HGS10 := Lib.hid (Row.owned (owns_but HGS9.out hsm (Nat.le_refl _))).1
            have HCG10 := Lib.hid (HCG9.out.same (hsm Q (.inr (by have := HZ7.out; omega))))
            have HB310 := Lib.hid (HB39.out.trans (hb10.mono HZ45.out.1))
            clear hsm hb10 HO59 HGR9 HGS9 HCG9 HB39
            have HCW10 := Lib.hid (HCW.out.keep HB310.out HZ3.out)
            have x0 := HCG10.out.c0
            have x1 := HCG10.out.c1
            have x2 := HCG10.out.c2
            have x3 := HCG10.out.c3
            have x4 := HCG10.out.c4
            have x5 := HCG10.out.c5
            have x6 := HCG10.out.c6
            have x7 := HCG10.out.c7
            have y0 := HCW10.out.c0
            have y1 := HCW10.out.c1
            have y2 := HCW10.out.c2
            have y3 := HCW10.out.c3
            have y4 := HCW10.out.c4
            have y5 := HCW10.out.c5
            have y6 := HCW10.out.c6
            have y7 := HCW10.out.c7
            have HF := Lib.hid (HB3.out.trans (HB310.out.mono HB3.out.size))
            go_wp2_with fail
            go_at_call 17
            refine Calls.mono (HSM.out _ _ _ _ _ _ _ _ _ HGR10.out HGS10.out (HWR.out.below HB310.out) (HWS.out.below HB310.out)) ?_
            rintro e w11 ⟨rfl, hb11⟩
            have HF11 := Lib.hid (HF.out.trans (hb11.mono HF.out.size))
            clear hb11
            go_wp2_with fail
            go_ret
            exact ⟨rfl, HF11.out⟩
end Go.Proofs.YtjaeglllijafkaaDoor
