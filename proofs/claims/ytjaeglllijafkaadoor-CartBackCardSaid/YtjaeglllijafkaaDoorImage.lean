/- The walk of the law's 'bytes': what an image is. -/
import Derived.Test.YtjaeglllijafkaaDoorProg
import Derived.Test.YtjaeglllijafkaaDoorKit
import Derived.Test.YtjaeglllijafkaaDoorCopy
import Derived.Deep.LoopGhost
namespace Go.Proofs.YtjaeglllijafkaaDoor
open Go.RowKit
set_option linter.unusedVariables false

/-! ### Plain -/
def sizeN (n : Int) : Nat := if n < 0 ∨ 8392704 < n then 32768 else n.toNat
theorem sizeN_le (n : Int) : sizeN n ≤ 8392704 := by unfold sizeN; split <;> omega
def byN (by_ : Int) (i : Nat) : Int := ((i : Int) / 8 % 256 * by_) % 256
/-- The first k bytes by their places, noughts behind them. -/
def fillN (n : Nat) (by_ : Int) (k : Nat) : List Int := ((List.range k).map (byN by_)) ++ List.replicate (n - k) 0
theorem fillN_length (n : Nat) (by_ : Int) (k : Nat) (h : k ≤ n) : (fillN n by_ k).length = n := by simp [fillN]; omega
theorem fillN_zero (n : Nat) (by_ : Int) : fillN n by_ 0 = List.replicate n 0 := by simp [fillN]
theorem fillN_set (n : Nat) (by_ : Int) (k : Nat) (h : k < n) : (fillN n by_ k).set k (byN by_ k) = fillN n by_ (k + 1) := by
  unfold fillN
  rw [List.set_append_right _ _ (by simp)]
  rw [List.range_succ, List.map_append, List.append_assoc]
  congr 1
  rw [show n - k = (n - (k + 1)) + 1 from by omega]
  simp [List.replicate_succ]
def baseN (n : Nat) (by_ : Int) : List Int := if by_ = 0 then List.replicate n 0 else fillN n by_ n
theorem baseN_length (n : Nat) (by_ : Int) : (baseN n by_).length = n := by unfold baseN; split; simp; exact fillN_length n by_ n (Nat.le_refl _)
/-- A byte put at a place, if there is such a place. -/
def putN (xs : List Int) (at_ v : Int) : List Int := if 0 ≤ at_ ∧ at_ < xs.length then xs.set at_.toNat v else xs
theorem putN_length (xs : List Int) (at_ v : Int) : (putN xs at_ v).length = xs.length := by unfold putN; split <;> simp
/-- The first k bytes of a patch, put. -/
def patchN (xs : List Int) (p : Int × List Int) : Nat → List Int
  | 0 => xs
  | k + 1 => putN (patchN xs p k) (wrap64 (p.1 + (k : Int))) (p.2[k]?.getD 0)
theorem patchN_length (xs : List Int) (p : Int × List Int) (k : Nat) : (patchN xs p k).length = xs.length := by
  induction k with
  | zero => rfl
  | succ k ih => rw [patchN, putN_length, ih]
/-- The first k patches. -/
def patchesN (xs : List Int) (ps : List (Int × List Int)) : Nat → List Int
  | 0 => xs
  | k + 1 => patchN (patchesN xs ps k) (ps[k]?.getD (0, [])) (ps[k]?.getD (0, [])).2.length
theorem patchesN_length (xs : List Int) (ps : List (Int × List Int)) (k : Nat) : (patchesN xs ps k).length = xs.length := by
  induction k with
  | zero => rfl
  | succ k ih => rw [patchesN, patchN_length, ih]
/-- What an image is. -/
def imageN (size by_ : Int) (ps : List (Int × List Int)) : List Int := patchesN (baseN (sizeN size) by_) ps ps.length
theorem imageN_length (size by_ : Int) (ps : List (Int × List Int)) : (imageN size by_ ps).length = sizeN size := by unfold imageN; rw [patchesN_length, baseN_length]
theorem u8_wf {x : Int} (h0 : 0 ≤ x) (h1 : x ≤ 255) : (Lit.int .u8 x).wf = true := by simp [Lit.wf, IntKind.min, IntKind.max, IntKind.signed, IntKind.bits]; omega
theorem zeros_u8 (n : Nat) : Fits .u8 (List.replicate n 0) := fun x hx => by rw [(List.mem_replicate.1 hx).2]; decide
theorem baseN_fits (n : Nat) (by_ : Int) : Fits .u8 (baseN n by_) := by
  unfold baseN
  split
  · exact zeros_u8 n
  · intro x hx
    unfold fillN at hx
    rcases List.mem_append.1 hx with h | h
    · obtain ⟨i, -, rfl⟩ := List.mem_map.1 h
      unfold byN
      exact u8_wf (by omega) (by omega)
    · exact zeros_u8 _ x h
theorem patchN_fits {xs : List Int} (h : Fits .u8 xs) {p : Int × List Int} (hp : Fits .u8 p.2) (k : Nat) (hk : k ≤ p.2.length) : Fits .u8 (patchN xs p k) := by
  induction k with
  | zero => exact h
  | succ k ih =>
    have hi := ih (by omega)
    intro x hx
    rw [patchN] at hx
    unfold putN at hx
    split at hx
    · rcases List.mem_or_eq_of_mem_set hx with h1 | h1
      · exact hi x h1
      · rw [h1]; exact hp _ (getD_mem (by omega))
    · exact hi x hx
theorem patchesN_fits {xs : List Int} (h : Fits .u8 xs) {ps : List (Int × List Int)} (hp : ∀ p ∈ ps, Fits .u8 p.2) (k : Nat) : Fits .u8 (patchesN xs ps k) := by
  induction k with
  | zero => exact h
  | succ k ih =>
    rw [patchesN]
    refine patchN_fits ih ?_ _ (Nat.le_refl _)
    rcases Nat.lt_or_ge k ps.length with hk | hk
    · rw [List.getElem?_eq_getElem hk]; exact hp _ (List.getElem_mem hk)
    · rw [List.getElem?_eq_none hk]; intro x hx; cases hx
theorem imageN_fits (size by_ : Int) {ps : List (Int × List Int)} (hp : ∀ p ∈ ps, Fits .u8 p.2) : Fits .u8 (imageN size by_ ps) := patchesN_fits (baseN_fits _ _) hp _

/-! ### Memory -/
theorem Row.shape {k : IntKind} {w : World} {v : Value} {xs : List Int} (h : Row k w v xs) : ∃ a cap, v = .slice a xs.length cap := by
  rcases h with ⟨a, cap, rfl, rfl, _⟩ | ⟨b, o, cap, rfl, _⟩ <;> exact ⟨_, _, rfl⟩
theorem Row.cells {k : IntKind} {w : World} {v : Value} {xs : List Int} (h : Row k w v xs) (h0 : 0 < xs.length) :
    ∃ b o cap, v = .slice (some ⟨b, o, none⟩) xs.length cap ∧ xs.length ≤ cap ∧ cap ≤ maxLen ∧ ∀ i, i < xs.length → w.cell? ⟨b, o + i, none⟩ = some (.int k (xs[i]?.getD 0)) := by
  rcases h with ⟨_, _, _, rfl, _⟩ | ⟨b, o, cap, h1, _, h2, h3, h4⟩
  · simp at h0
  · exact ⟨b, o, cap, h1, h2, h3, h4⟩
/-- A row of patches in memory. -/
def Patches (W : World) (v : Value) (ps : List (Int × List Int)) : Prop :=
  ∃ a cap, v = .slice a ps.length cap ∧ ps.length ≤ maxLen ∧ (0 < ps.length → ∃ b o, a = some ⟨b, o, none⟩ ∧ ∀ k, k < ps.length → W.cell? ⟨b, o + k * 2, none⟩ = some (.int .i64 (ps[k]?.getD (0, [])).1) ∧
    ∃ pv, W.cell? ⟨b, o + k * 2 + 1, none⟩ = some pv ∧ Row .u8 W pv (ps[k]?.getD (0, [])).2)
theorem Patches.below {W W' : World} {v : Value} {ps : List (Int × List Int)} (h : Patches W v ps) (hb : Below W.heap.size W W') : Patches W' v ps := by
  obtain ⟨a, cap, rfl, hm, hx⟩ := h
  refine ⟨a, cap, rfl, hm, fun h0 => ?_⟩
  obtain ⟨b, o, rfl, hy⟩ := hx h0
  refine ⟨b, o, rfl, fun k hk => ?_⟩
  obtain ⟨h1, pv, h2, h3⟩ := hy k hk
  exact ⟨(hb.cell (World.block_lt_of_cell? W _ h1)).trans h1, pv, (hb.cell (World.block_lt_of_cell? W _ h2)).trans h2, h3.below hb⟩

set_option maxRecDepth 100000 in
set_option maxHeartbeats 4000000 in
theorem image_any (size by_ : Int) (pv : Value) (ps : List (Int × List Int)) (w : World) (hp : Patches w pv ps) (b0 : 0 ≤ by_) (b1 : by_ ≤ 255) :
    Calls Tryd.prog 7 #[.agg #[.int .i64 size, .int .u8 by_, pv]] w fun e w' => ∃ r, e = .returned r ∧ w'.ownsRow w.heap.size 5 1 r (sizeN size) ((imageN size by_ ps).map (Value.int .u8)) ∧ Below w.heap.size w w' := by
  obtain ⟨i0, hi, hz0, hz1, hz2⟩ := info_parts Tryd.infoU8
  have hi' := Lib.hid hi
  have hz0' := Lib.hid hz0
  have hz1' := Lib.hid hz1
  have hz2' := Lib.hid hz2
  clear hi hz0 hz1 hz2
  obtain ⟨a, cap, rfl, hm, hx⟩ := hp
  have HX := Lib.hid hx
  unfold maxLen at hm
  clear hx
  obtain ⟨n, hn⟩ : ∃ n : Nat, sizeN size = n := ⟨_, rfl⟩
  have n1 : n ≤ 8392704 := by rw [← hn]; exact sizeN_le size
  have HN := Lib.hid hn
  have n2 : (size < 0 ∨ 8392704 < size) → n = 32768 := fun h => by rw [← hn]; unfold sizeN; rw [if_pos h]
  have n3 : ¬ (size < 0 ∨ 8392704 < size) → (n : Int) = size := fun h => by rw [← hn]; unfold sizeN; rw [if_neg h]; omega
  have N2 := Lib.hid n2
  have N3 := Lib.hid n3
  rw [hn]
  clear n2 n3 hn
  obtain ⟨M, hM⟩ : ∃ M : Nat, ps.length = M := ⟨_, rfl⟩
  have HM := Lib.hid hM
  rw [hM] at hm ⊢
  clear hM
  have hmk : i0.bytes * n ≤ 281474976710656 := by rw [hz2'.out]; omega
  have HMK := Lib.hid hmk
  have hmade : (madeCells (Value.int .u8 0).cells (n * 1)).toList = (fillN n by_ 0).map (Value.int .u8) := by
    rw [fillN_zero, Nat.mul_one, show (Value.int IntKind.u8 0).cells = #[Value.int .u8 0] from rfl, toList_madeCells_one]; simp
  have HMD := Lib.hid hmade
  clear hmk hmade
  go_enter Tryd.func7, Tryd.ntmps7
  obtain ⟨wB, hwB⟩ : ∃ wB, w.alloc (.cells #[.int .i64 size, .int .u8 by_, .slice a M cap] 24) = wB := ⟨_, rfl⟩
  have q1 : wB.cell? ⟨w.heap.size, 1, none⟩ = some (.int .u8 by_) := by rw [← hwB]; simp [go_sem]
  have q2 : wB.cell? ⟨w.heap.size, 2, none⟩ = some (.slice a M cap) := by rw [← hwB]; simp [go_sem]
  have hbB : Below w.heap.size w wB := by rw [← hwB]; exact (Below.refl _ w).alloc (Nat.le_refl _) _
  have hzB : w.heap.size < wB.heap.size := by rw [← hwB]; simp
  have Q1 := Lib.hid q1
  have Q2 := Lib.hid q2
  have HBB := Lib.hid hbB
  have HWB := Lib.hid hwB
  have HZB := Lib.hid hzB
  clear q1 q2 hbB hwB hzB
  go_upto_region 2 with fail
  rw [HWB.out]
  go_cut [17] (fun s17 wx => s17 = .bool (decide (size < 0 ∨ 8392704 < size)) ∧ wB = wx)
  case first =>
    by_cases hs : size < 0
    · have e : decide (size < 0 ∨ 8392704 < size) = true := decide_eq_true (.inl hs)
      have E := Lib.hid e
      clear e
      go_wp2_with fail
      all_goals
        go_meet
        exact ⟨by rw [E.out], rfl⟩
    · have e : decide (size < 0 ∨ 8392704 < size) = decide (8392704 < size) := by rw [decide_eq_decide]; omega
      have E := Lib.hid e
      clear e
      go_wp2_with fail
      all_goals
        go_meet
        exact ⟨by rw [E.out], rfl⟩
  case rest =>
    obtain ⟨rfl, rfl⟩ := hcut
    go_upto_if 17 with fail
    go_cut [3] (fun s3 wx => s3 = .int .i64 (n : Int) ∧ wB = wx)
    case first =>
      by_cases hs : size < 0 ∨ 8392704 < size
      · have e := Lib.hid (N2.out hs)
        have e2 : decide (size < 0 ∨ 8392704 < size) = true := decide_eq_true hs
        rw [e2]
        go_wp2_with fail
        go_meet
        exact ⟨by rw [e.out]; rfl, rfl⟩
      · have e := Lib.hid (N3.out hs)
        have e2 : decide (size < 0 ∨ 8392704 < size) = false := decide_eq_false hs
        rw [e2]
        go_wp2_with fail
        go_meet
        exact ⟨by rw [e.out], rfl⟩
    case rest =>
      obtain ⟨rfl, rfl⟩ := hcut
      obtain ⟨G, hG⟩ : ∃ G, wB.heap.size = G := ⟨_, rfl⟩
      have HG := Lib.hid hG
      clear hG
      go_upto_region 5 with (refine wpList_make_full _ rfl _ _ _ rfl wB.heap.size 5 i0 (.int .u8 0) 1 Tryd.underlying28 hi'.out hz0'.out hz1'.out .i64 .i64 _ _ n rfl rfl (by omega) (by omega) HMK.out (by unfold maxLen; omega) (Nat.le_refl _) ?_; intro w1 hown hgrow; rw [HMD.out] at hown)
      rw [HG.out] at hown ⊢
      have hb1 : Below G wB w1 := by have h := (Below.refl wB.heap.size wB).grown hgrow (Nat.le_refl _) (fun k h => by cases h); rw [HG.out] at h; exact h
      have hwG : w.heap.size < G := by have h := HZB.out; rw [HG.out] at h; exact h
      have hb2 : Below w.heap.size w w1 := HBB.out.trans (hb1.mono (by omega))
      have q1 : w1.cell? ⟨w.heap.size, 1, none⟩ = some (.int .u8 by_) := (hb1.cell hwG).trans Q1.out
      have q2 : w1.cell? ⟨w.heap.size, 2, none⟩ = some (.slice a M cap) := (hb1.cell hwG).trans Q2.out
      have HB2 := Lib.hid hb2
      have HO := Lib.hid hown
      have hwG' := hwG
      clear hown hgrow hb1 hb2
      go_upto_if 22 with fail
      go_cut [5] (fun s5 wx => Hid (wx.ownsRow G 5 1 (.slice (some ⟨G, 0, none⟩) n n) n ((baseN n by_).map (Value.int .u8))) ∧ Hid (Below w.heap.size w wx) ∧ Hid (wx.cell? ⟨w.heap.size, 2, none⟩ = some (.slice a M cap)))
      case first =>
        by_cases hy : by_ = 0
        · subst hy
          go_wp2_with fail
          go_meet
          exact ⟨by unfold baseN; rw [if_pos rfl, ← fillN_zero n 0]; exact HO, HB2, Lib.hid q2⟩
        · obtain ⟨NN, hNN⟩ : ∃ NN : Int, (n : Int) = NN := ⟨_, rfl⟩
          rw [hNN]
          have HNN := Lib.hid hNN
          clear hNN
          go_upto_region 7 with fail
          go_loopw [5] (fun s5 wr => ∃ k : Nat, k ≤ n ∧ s5 = .int .i64 k ∧ Hid (wr.ownsRow G 5 1 (.slice (some ⟨G, 0, none⟩) n n) n ((fillN n by_ k).map (Value.int .u8))) ∧ Hid (Below w.heap.size w wr) ∧ wr.cell? ⟨w.heap.size, 1, none⟩ = some (.int .u8 by_) ∧ Hid (wr.cell? ⟨w.heap.size, 2, none⟩ = some (.slice a M cap))) (fun s5 _ => n - (intOf s5).toNat)
          case atStart => exact ⟨0, Nat.zero_le _, rfl, HO, HB2, q1, Lib.hid q2⟩
          case round =>
            obtain ⟨k, hk, rfl, hO, hbr, c0, hc2⟩ := hrel
            by_cases hlt : k < n
            · have c2 : ∃ u, wr.cell? ⟨G, k, none⟩ = some u := by
                have := hO.out.cellAt k (by omega)
                rw [List.getElem?_map, List.getElem?_eq_getElem (by rw [fillN_length n by_ k hk]; omega)] at this
                exact ⟨_, this⟩
              obtain ⟨u, c2⟩ := c2
              have c3 : wr.frozen? ⟨G, k, none⟩ = false := hO.out.frozenAt k
              have hst := Lib.hid (hO.out.stored k (.int .u8 (byN by_ k)))
              have i1 : (k : Int) < NN := by rw [← HNN.out]; omega
              have i1b : (k : Int) < (n : Int) := by omega
              have i2 : 0 ≤ (k : Int) := by omega
              go_wp2
              go_roundw
              case rel =>
                refine ⟨k + 1, by omega, by go_num, ?_, Lib.hid (hbr.out.setCell (by simp; omega) _), ?_, ?_⟩
                · have h := hst.out.1
                  rw [← List.map_set, fillN_set n by_ k hlt] at h
                  exact Lib.hid h
                · rw [← c0]; exact (Below.refl G wr).setCell (by simp) _ |>.cell hwG'
                · rw [← hc2.out]; exact Lib.hid ((Below.refl G wr).setCell (by simp) _ |>.cell hwG')
              case measure => simp [intOf]; omega
            · obtain rfl : k = n := by omega
              have i1 : ¬ (k : Int) < NN := by rw [← HNN.out]; omega
              go_wp2
              rw [← HNN.out]
              go_meet
              exact ⟨by unfold baseN; rw [if_neg hy]; exact hO, hbr, hc2⟩
      case rest =>
        clear HO HB2 q1 q2
        obtain ⟨ho, hbw, hq⟩ := hcut
        go_upto_region 11 with fail
        go_loopw [6] (fun s6 wr => ∃ k : Nat, k ≤ M ∧ s6 = .int .i64 k ∧ Hid (wr.ownsRow G 5 1 (.slice (some ⟨G, 0, none⟩) n n) n ((patchesN (baseN n by_) ps k).map (Value.int .u8))) ∧ Hid (Below w.heap.size w wr) ∧ wr.cell? ⟨w.heap.size, 2, none⟩ = some (.slice a M cap)) (fun s6 _ => M - (intOf s6).toNat)
        case atStart => exact ⟨0, Nat.zero_le _, rfl, ho, hbw, hq.out⟩
        case round =>
          obtain ⟨k, hk, rfl, hO, hbr, c0⟩ := hrel
          clear ho hbw hq
          by_cases hlt : k < M
          · obtain ⟨b, o, rfl, hy⟩ := HX.out (by rw [HM.out]; omega)
            obtain ⟨y1, pv, y2, y3⟩ := hy k (by rw [HM.out]; exact hlt)
            obtain ⟨at_, hat⟩ : ∃ at_, (ps[k]?.getD (0, [])).1 = at_ := ⟨_, rfl⟩
            obtain ⟨xs, hxs⟩ : ∃ xs, (ps[k]?.getD (0, [])).2 = xs := ⟨_, rfl⟩
            rw [hat] at y1
            rw [hxs] at y3
            have c1 : wr.cell? ⟨b, o + k * 2, none⟩ = some (.int .i64 at_) := (hbr.out.cell (World.block_lt_of_cell? w _ y1)).trans y1
            have c2 : wr.cell? ⟨b, o + k * 2 + 1, none⟩ = some pv := (hbr.out.cell (World.block_lt_of_cell? w _ y2)).trans y2
            have hR := Lib.hid (y3.below hbr.out)
            have HXR0 := y3
            obtain ⟨pa, pcap, rfl⟩ := y3.shape
            obtain ⟨L, hL⟩ : ∃ L, xs.length = L := ⟨_, rfl⟩
            have hLm := hR.out.len
            rw [hL] at c2 hR hLm HXR0
            have HXR := Lib.hid HXR0
            clear HXR0
            unfold maxLen at hLm
            have HAT := Lib.hid hat
            have HXS := Lib.hid hxs
            have HL := Lib.hid hL
            clear y1 y2 y3 hy hat hxs hL
            have i1 : (k : Int) < (M : Int) := by omega
            have i2 : 0 ≤ (k : Int) := by omega
            obtain ⟨PB, hPB⟩ : ∃ PB, wr.heap.size = PB := ⟨_, rfl⟩
            have hGP : G < PB := by rw [← hPB]; exact (hO.out.lt G rfl).2
            have HPB := Lib.hid hPB
            clear hPB
            go_upto_region 14 with fail
            obtain ⟨W3, hW3⟩ : ∃ W3, wr.alloc (Obj.cells #[Value.int IntKind.i64 at_, Value.slice pa L pcap] 51) = W3 := ⟨_, rfl⟩
            have hO3 : W3.ownsRow G 5 1 (.slice (some ⟨G, 0, none⟩) n n) n ((patchN (patchesN (baseN n by_) ps k) (at_, xs) 0).map (Value.int .u8)) := by rw [← hW3]; exact hO.out.alloc _
            have hwP : w.heap.size ≤ wr.heap.size := hbr.out.size
            have hb3 : Below w.heap.size w W3 := by rw [← hW3]; exact hbr.out.alloc hwP _
            have hbb : Below PB wr W3 := by rw [← hW3]; exact (Below.refl PB wr).alloc (by rw [HPB.out]; exact Nat.le_refl _) _
            have c4 : W3.cell? ⟨PB, 0, none⟩ = some (.int .i64 at_) := by rw [← hW3, ← HPB.out]; simp [go_sem]
            have c5 : W3.cell? ⟨PB, 1, none⟩ = some (.slice pa L pcap) := by rw [← hW3, ← HPB.out]; simp [go_sem]
            have c6 : W3.cell? ⟨w.heap.size, 2, none⟩ = some (.slice (some ⟨b, o, none⟩) M cap) := (hbb.cell (Nat.lt_trans hwG' hGP)).trans c0
            rw [HPB.out]
            rw [hW3]
            have HO3 := Lib.hid hO3
            have HB3 := Lib.hid hb3
            have HC6 := Lib.hid c6
            have HW := Lib.hid hwG
            clear hO3 hb3 hbb hW3 hwP c6 hR c1 c2 c0 hO hwG
            have hR : Hid (∀ wz, Below w.heap.size w wz → Row .u8 wz (.slice pa L pcap) xs) := Lib.hid (fun wz hz => (HXR.out).below hz)
            go_upto_region 15 with fail
            obtain ⟨wa, rfl⟩ : ∃ wa, wa = wr := ⟨_, rfl⟩
            go_loopw [8] (fun s8 wr => ∃ j : Nat, j ≤ L ∧ s8 = .int .i64 j ∧ Hid (wr.ownsRow G 5 1 (.slice (some ⟨G, 0, none⟩) n n) n ((patchN (patchesN (baseN n by_) ps k) (at_, xs) j).map (Value.int .u8))) ∧ Hid (Below w.heap.size w wr) ∧ Hid (wr.cell? ⟨w.heap.size, 2, none⟩ = some (.slice (some ⟨b, o, none⟩) M cap)) ∧ wr.cell? ⟨PB, 0, none⟩ = some (.int .i64 at_) ∧ wr.cell? ⟨PB, 1, none⟩ = some (.slice pa L pcap)) (fun s8 _ => L - (intOf s8).toNat)
            case atStart => exact ⟨0, Nat.zero_le _, rfl, HO3, HB3, HC6, c4, c5⟩
            case round =>
              obtain ⟨j, hj, rfl, hO, hbr2, hc6, d4, d5⟩ := hrel
              clear c4 c5 HO3 HB3 HC6
              by_cases hlt2 : j < L
              · have j1 : (j : Int) < (L : Int) := by omega
                have j2 : 0 ≤ (j : Int) := by omega
                obtain ⟨T, hT⟩ : ∃ T, wrap64 (at_ + (j : Int)) = T := ⟨_, rfl⟩
                have HT := Lib.hid hT
                clear hT
                go_upto_region 18 with fail
                rw [HT.out]
                have hlen : (patchN (patchesN (baseN n by_) ps k) (at_, xs) j).length = n := by rw [patchN_length, patchesN_length, baseN_length]
                have hsucc : patchN (patchesN (baseN n by_) ps k) (at_, xs) (j + 1) = putN (patchN (patchesN (baseN n by_) ps k) (at_, xs) j) T (xs[j]?.getD 0) := by rw [patchN, HT.out]
                have HS := Lib.hid hsucc
                have HLEN := Lib.hid hlen
                clear hsucc hlen
                by_cases hT : 0 ≤ T ∧ T < (n : Int)
                · obtain ⟨t0, t1⟩ := hT
                  obtain ⟨t, rfl⟩ := Int.eq_ofNat_of_zero_le t0
                  have t2 : t < n := by omega
                  obtain ⟨xb, xo, xc, e1, -, -, hcs⟩ := (hR.out wr hbr2.out).cells (by rw [HL.out]; omega)
                  injection e1 with e2 e3 e4
                  subst e2
                  clear e3 e4
                  have d6 : wr.cell? ⟨xb, xo + j, none⟩ = some (.int .u8 (xs[j]?.getD 0)) := hcs j (by rw [HL.out]; exact hlt2)
                  clear hcs
                  obtain ⟨x, hx⟩ : ∃ x, xs[j]?.getD 0 = x := ⟨_, rfl⟩
                  rw [hx] at d6
                  have HX2 := Lib.hid hx
                  clear hx
                  have d7 : ∃ u, wr.cell? ⟨G, t, none⟩ = some u := by
                    have := hO.out.cellAt t (by omega)
                    rw [List.getElem?_map, List.getElem?_eq_getElem (by rw [HLEN.out]; exact t2)] at this
                    exact ⟨_, this⟩
                  obtain ⟨u, d7⟩ := d7
                  have d8 : wr.frozen? ⟨G, t, none⟩ = false := hO.out.frozenAt t
                  have hst := Lib.hid (hO.out.stored t (.int .u8 x))
                  have hGP' := hGP
                  go_wp2
                  go_roundw
                  case rel =>
                    have hb := Lib.hid ((Below.refl G wr).setCell (p := ⟨G, t, none⟩) (by simp) (.int .u8 x))
                    refine ⟨j + 1, by omega, by go_num, ?_, Lib.hid (hbr2.out.setCell (by simp; omega) _), Lib.hid ((hb.out.cell hwG').trans hc6.out), ?_, ?_⟩
                    · have h := hst.out.1
                      rw [← List.map_set] at h
                      rw [HS.out, HX2.out]
                      unfold putN
                      rw [if_pos ⟨t0, by rw [HLEN.out]; exact t1⟩]
                      exact Lib.hid h
                    · exact (World.cell?_setCell_other wr ⟨G, t, none⟩ ⟨PB, 0, none⟩ (.int .u8 x) (by intro e; injection e with e; omega)).trans d4
                    · exact (World.cell?_setCell_other wr ⟨G, t, none⟩ ⟨PB, 1, none⟩ (.int .u8 x) (by intro e; injection e with e; omega)).trans d5
                  case measure => simp [intOf]; omega
                · have HN0 := Lib.hid hT
                  have t3 : T < 0 ∨ (n : Int) ≤ T := by omega
                  have hsm : putN (patchN (patchesN (baseN n by_) ps k) (at_, xs) j) T (xs[j]?.getD 0) = patchN (patchesN (baseN n by_) ps k) (at_, xs) j := by
                    unfold putN
                    rw [if_neg (by rw [HLEN.out]; exact hT)]
                  have HSM := Lib.hid hsm
                  clear hsm hT
                  rcases t3 with t3 | t3
                  · have t4 : ¬ 0 ≤ T := by omega
                    go_wp2
                    go_roundw
                    case rel => exact ⟨j + 1, by omega, by go_num, by rw [HS.out, HSM.out]; exact hO, hbr2, hc6, d4, d5⟩
                    case measure => simp [intOf]; omega
                  · have t4 : 0 ≤ T := by omega
                    have t5 : ¬ T < (n : Int) := by omega
                    go_wp2
                    go_roundw
                    case rel => exact ⟨j + 1, by omega, by go_num, by rw [HS.out, HSM.out]; exact hO, hbr2, hc6, d4, d5⟩
                    case measure => simp [intOf]; omega
              · obtain rfl : j = L := by omega
                have j1 : ¬ (j : Int) < (j : Int) := by omega
                go_wp2
                go_roundw
                case rel =>
                  refine ⟨k + 1, by omega, by go_num, ?_, hbr2, hc6.out⟩
                  rw [patchesN]
                  have e : ps[k]?.getD (0, []) = (at_, xs) := by rw [← HAT.out, ← HXS.out]
                  rw [e]
                  show Hid (World.ownsRow _ _ _ _ _ _ ((patchN _ (at_, xs) xs.length).map _))
                  rw [HL.out]
                  exact hO
                case measure => simp [intOf]; omega
          · obtain rfl : k = M := by omega
            have i1 : ¬ (k : Int) < (k : Int) := by omega
            go_wp2
            go_ret
            refine ⟨_, rfl, ?_, hbr.out⟩
            have h := hO.out
            unfold imageN
            rw [HN.out, HM.out]
            exact ⟨h.1, h.2.elim Or.inl (fun ⟨g, c1, cu, c2, c3, r⟩ => Or.inr ⟨g, c1, cu, c2, Nat.le_trans (Nat.le_of_lt hwG) c3, r⟩)⟩
end Go.Proofs.YtjaeglllijafkaaDoor
