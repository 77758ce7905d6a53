/- What the rows' listed variables say of the cells that are read. -/
import Derived.Test.YtpeieilbjadcfaaGreatDoorRows
import Derived.Test.YtpeieilbjadcfaaGreatDoorProg
import Derived.Test.YtpeieilbjadcfaaGreatDoorCodesSigns
import Derived.Test.YtpeieilbjadcfaaGreatDoorCodesNums
import Derived.LaidSub
import Derived.MakeChecks
import Derived.Shelf.Vars
import Derived.Handed
namespace Go.Proofs.YtpeieilbjadcfaaGreatDoor
open Go.RowKit Go.ChangeShapes Go.WideShapes Go.ChangeAt
set_option linter.unusedVariables false

set_option maxRecDepth 100000 in
theorem bruijn_cell {W : World} (h : laidMetH Tryz.prog [("math/bits.deBruijn64tab", Rows.laid_math_bits_deBruijn64tab)] W) : W.cell? ⟨7, 15, none⟩ = some (.int .u8 4) := by
  rw [MakeChecks.laidMetH_plain _ _ _ (by kernel_rfl)] at h
  obtain ⟨ps, ⟨g, t, cs, fuel, p, q, hg, ht, hv, hd, _, _⟩, _, _⟩ := h
  obtain rfl := Option.some.inj ((show Tryz.prog.globalNamed "math/bits.deBruijn64tab" = some 7 by kernel_rfl).symm.trans hg)
  obtain rfl := Option.some.inj ((show (Tryz.prog.globals[7]?).map (·.type) = some 150 by kernel_rfl).symm.trans ht)
  obtain ⟨xs, m, _, ex, _, hl, hel⟩ := DataW.trod_array Tryz.underlying150 hd
  have c5 : Tryz.prog.cellsOf 5 = 1 := by kernel_rfl
  have hE := hel 15 (by decide)
  rw [c5, Nat.mul_one, List.getElem?_eq_getElem (by omega)] at hE
  obtain ⟨z, e1, e2, _⟩ := DataW.trod_int Tryz.underlying5 hE
  have e4 : (xs.map (·.1))[15]? = some (DataW.lit (.int .u8 4) : DataW Unit) := by
    rw [← (DataW.agg.inj (Prod.mk.inj ex).1)]; rfl
  rw [List.getElem?_map, List.getElem?_eq_getElem (by omega : 15 < xs.length), e2] at e4
  have hz : z = 4 := by simpa using e4
  rw [World.var?_cell hg hv 15, ← hz]
  have : cs.toList[15]? = some (.int .u8 z) := by
    have h0 : ((cs.toList.drop 15).take 1)[0]? = some (.int .u8 z) := by rw [e1]; rfl
    simpa using h0
  simpa using this
theorem iface_cell {W : World} {n nm : String} {g : Nat} {d : DataW Unit} (h : laidMetH Tryz.prog [(n, .iface nm d)] W) (hp : ([(n, (.iface nm d : DataW Unit))].all fun x => x.2.handleName?.isNone) = true) (hg : Tryz.prog.globalNamed n = some g) (ht : (Tryz.prog.globals[g]?).map (·.type) = some 70) :
    ∃ ev, W.cell? ⟨g, 0, none⟩ = some ev ∧ (ev = .nilIface ∨ ∃ te pe, ev = .iface te pe) := by
  rw [MakeChecks.laidMetH_plain _ _ _ hp] at h
  obtain ⟨ps, ⟨g', t, cs, fuel, p, q, hg', ht', hv, hd, _, _⟩, _, _⟩ := h
  obtain rfl := Option.some.inj (hg.symm.trans hg')
  obtain rfl := Option.some.inj (ht.symm.trans ht')
  obtain ⟨f1, u, v, e, _, _⟩ := iface_of_trod Tryz.underlying70 hd
  have hc := World.var?_cell hg hv 0
  have e2 : cs[0]? = some (.iface u v) := by
    have : cs.toList[0]? = some (Value.iface u v) := by rw [e]; rfl
    simpa using this
  exact ⟨_, hc.trans e2, .inr ⟨u, v, rfl⟩⟩
theorem laid_of {W : World} {l : List (String × DataW Unit)} (h : laidMetH Tryz.prog l W) (hl : (l.filter (fun x => x.1 == "math/bits.deBruijn64tab"), l.filter (fun x => x.1 == "strconv.ErrSyntax"), l.filter (fun x => x.1 == "strconv.ErrRange")) = ([("math/bits.deBruijn64tab", Rows.laid_math_bits_deBruijn64tab)], [("strconv.ErrSyntax", Rows.laid_strconv_ErrSyntax)], [("strconv.ErrRange", Rows.laid_strconv_ErrRange)])) (hS : W.ShapedOpen Tryz.prog) : LaidE W := by
  have h2 := h.filter (fun x => x.1 == "math/bits.deBruijn64tab")
  have h3 := h.filter (fun x => x.1 == "strconv.ErrSyntax")
  have h4 := h.filter (fun x => x.1 == "strconv.ErrRange")
  rw [(Prod.mk.inj hl).1] at h2
  rw [(Prod.mk.inj (Prod.mk.inj hl).2).1] at h3
  rw [(Prod.mk.inj (Prod.mk.inj hl).2).2] at h4
  exact ⟨⟨cell_of_shapedOpen_int (g := 0) (zero := #[.int .i64 0]) (t := 3) hS (of_decide_eq_true (by kernel_rfl)) (by kernel_rfl) rfl (by kernel_rfl) (by kernel_rfl) Tryz.underlying3, bruijn_cell h2⟩,
    iface_cell h3 (by kernel_rfl) (by kernel_rfl) (by kernel_rfl), iface_cell h4 (by kernel_rfl) (by kernel_rfl) (by kernel_rfl)⟩
section
variable {H : Type} {enc : TypeId × Value → H}
/-- The wrap of a change under a premise on the world, for a walk that wants the world's shape too. -/
theorem returns_shaped {a : Assume} {C : Checked} {os : Os} {f : FuncId} {fn : Func} {s : ChangeSpec} {conds : List PathCond} {apart fresh handsOn again : Bool} {X : World → Array Value → Prop}
    (hX : ∀ (u v : World) (args : Array Value), u.heap = v.heap → X u args → X v args) (own : ownKnob C.prog.godebug = none) (started : os.Started) (hni : C.prog.inits.idxOf? f = none) (hfn : C.prog.funcs[f]? = some fn)
    (wit : ∃ (w : World) (tape : Tape) (i : Input), w.os = os ∧ (w.forCall tape i).Shaped C.prog ∧ i.vars = [] ∧ Input.okWide C.prog (w.forCall tape i) .any w.heap.size f i ∧ ((s.pre enc C.prog fn conds apart (w.forCall tape i).memory i.args ∧ X (w.forCall tape i).memory i.args) ∧ sizedMet enc C.prog fn (OpenSpec.ofChange s) apart (w.forCall tape i).memory i.args) ∧ a.holds C.prog (lone (Frame.enter C.prog f i.args .normal) [] (w.forCall tape i)))
    (walk : ∀ (W : World) (base : Nat) (args : Array Value) (ds gs : List (DataW H)) (before : List MemPlace), (∀ (j : Nat) t v, fn.params[j]? = some t → args[j]? = some v → Value.okWide C.prog W .any base t v) → DataW.Whole enc C.prog fn.params.toList s.vars apart W args.toList ds gs before →
      (DataW.weightsEach C.prog (fn.params.toList ++ s.plain.varTypes C.prog) (ds ++ gs)).all (· ≤ reachBytes) = true → X W args → W.ShapedOpen C.prog → Calls C.prog f args W fun e W' => ∃ v, e = .returned v ∧ s.post enc C.prog fn apart fresh handsOn again W args v W') :
    ReturnsInHanded a C os f .any (fun w args => (s.pre enc C.prog fn conds apart w args ∧ X w args) ∧ sizedMet enc C.prog fn (OpenSpec.ofChange s) apart w args) (s.post enc C.prog fn apart fresh handsOn again) := by
  refine returnsInHanded_of_calls own started hni wit fun w tape i _ hsh _ hok hpre _ => ?_
  obtain ⟨_, _, _, g, hg, _, _, _, _, hval⟩ := hok
  cases Option.some.inj (hg.symm.trans hfn)
  obtain ⟨⟨⟨ds, gs, before, hw, _⟩, hx⟩, hz⟩ := hpre
  have hw2 : DataW.Whole enc C.prog fn.params.toList s.vars apart (w.forCall tape i) i.args.toList ds gs before := DataW.Whole.of_heap (by rfl) hw
  refine (walk _ _ _ _ _ _ hval hw2 (hz.weights hw) (hX _ _ _ (by rfl) hx) hsh).mono ?_
  rintro e W' ⟨v, rfl, hp⟩
  exact ChangeSpec.post_blind hp
end
end Go.Proofs.YtpeieilbjadcfaaGreatDoor
