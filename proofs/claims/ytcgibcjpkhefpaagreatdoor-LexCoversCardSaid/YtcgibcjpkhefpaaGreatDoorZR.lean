/-
  From the condition of the given rows (the listed variables, the world's shape) to what the walks ask of the memory.
  A wrap of a row's contract that hands on both the listed variables' condition and the world's shape.
-/
import Derived.Test.YtcgibcjpkhefpaaGreatDoorZM
import Derived.Test.YtcgibcjpkhefpaaGreatDoorRows
import Derived.ProofKit
import Derived.OpenShut
import Derived.LaidMore
import Derived.Lay
import Derived.Stop.Joined
import Derived.Lib.LaidU8
import Derived.Shelf.Vars
import Derived.SizedLaws
namespace Go.Proofs.YtcgibcjpkhefpaaGreatDoor
open Go.ChangeShapes Go.WideShapes Go.ChangeAt Go.RowKit
abbrev laidL : List (String × DataW Unit) := Rows.lexWordsRow.laid
theorem laid_plain {W : World} (h : laidMetH Tryz.prog laidL W) : laidMet Tryz.prog laidL W := by
  rwa [MakeChecks.laidMetH_plain _ _ _ (by kernel_rfl)] at h
theorem trod_float {H : Type} {enc : TypeId × Value → H} {P : Program} {w : World} {base : Nat} {spare : Nat → Bool} {held : Bool} {fuel : Nat} {t : TypeId} {cs : List Value} {x : DataW H × List MemPlace} {k : FloatKind} (ht : P.underlying t = some (.float k)) (h : DataW.trod enc P w base spare held fuel t cs = some x) : ∃ n, cs = [.float k n] ∧ x = (.lit (.float k n), []) := by
  cases fuel with
  | zero => simp [DataW.trod] at h
  | succ n =>
    unfold DataW.trod at h
    rw [ht] at h
    split at h <;> simp_all
theorem opt_cell {W : World} (h : laidMet Tryz.prog laidL W) : W.cell? ⟨10, 0, none⟩ = some (.bool true) := by
  obtain ⟨g, t, cs, fuel, p, hg, ht, hv, hd⟩ := Lib.laidMet.reads h (n := "internal/strconv.optimize") (d := Rows.laid_internal_strconv_optimize) (by simp [laidL, Rows.lexWordsRow])
  obtain rfl := Option.some.inj ((show Tryz.prog.globalNamed "internal/strconv.optimize" = some 10 by kernel_rfl).symm.trans hg)
  obtain rfl := Option.some.inj ((show (Tryz.prog.globals[10]?).map (·.type) = some 4 by kernel_rfl).symm.trans ht)
  obtain ⟨b, hc, hx⟩ := DataW.trod_bool Tryz.underlying4 hd
  have hb : b = true := by
    have := congrArg Prod.fst hx
    simpa [Rows.laid_internal_strconv_optimize] using this.symm
  subst hb
  rw [World.var?_cell hg hv 0, ← Array.getElem?_toList, hc]
  rfl
theorem inf_cell {W : World} (h : laidMet Tryz.prog laidL W) : W.cell? ⟨11, 0, none⟩ = some (.int .u64 52) := by
  obtain ⟨g, t, cs, fuel, p, hg, ht, hv, hd⟩ := Lib.laidMet.reads h (n := "internal/strconv.float64info") (d := Rows.laid_internal_strconv_float64info) (by simp [laidL, Rows.lexWordsRow])
  obtain rfl := Option.some.inj ((show Tryz.prog.globalNamed "internal/strconv.float64info" = some 11 by kernel_rfl).symm.trans hg)
  obtain ⟨tt, htt⟩ : ∃ tt, (Tryz.prog.globals[11]?).map (·.type) = some tt := ⟨t, ht⟩
  obtain rfl := Option.some.inj ((show (Tryz.prog.globals[11]?).map (·.type) = some 204 by kernel_rfl).symm.trans ht)
  obtain ⟨fs, hfs, hf0⟩ : ∃ fs, Tryz.prog.underlying 204 = some (.struct fs) ∧ (fs[0]?.map fun f => (f.type, f.offset)) = some (56, 0) := by
    have e : (match Tryz.prog.underlying 204 with | some (.struct fs) => (fs[0]?.map fun f => (f.type, f.offset)) | _ => none) = some (56, 0) := by kernel_rfl
    cases hu : Tryz.prog.underlying 204 with
    | none => rw [hu] at e; cases e
    | some u =>
      rw [hu] at e
      cases u with
      | struct fs => exact ⟨fs, rfl, e⟩
      | _ => cases e
  obtain ⟨xs, n, _, hx, hcl, hxl, hall⟩ := DataW.trod_struct hfs hd
  obtain ⟨f, hfe, hfp⟩ := Option.map_eq_some_iff.1 hf0
  have h0 := hall 0 f hfe
  simp only [Prod.mk.injEq] at hfp
  rw [hfp.1, hfp.2, show Tryz.prog.cellsOf 56 = 1 by kernel_rfl] at h0
  have hx0 : (xs[0]?).map (·.1) = some (.lit (.int .u64 52)) := by
    have := congrArg Prod.fst hx
    simp only [Rows.laid_internal_strconv_float64info, DataW.agg.injEq] at this
    rw [← List.getElem?_map, ← this]
    rfl
  obtain ⟨b, hb, hb1⟩ := Option.map_eq_some_iff.1 hx0
  rw [hb] at h0
  obtain ⟨z, hz, hbz, _⟩ := DataW.trod_int Tryz.underlying56 h0
  have : z = 52 := by
    rw [hbz] at hb1
    simpa using hb1
  subst this
  rw [World.var?_cell hg hv 0, ← Array.getElem?_toList]
  have h0 : (((cs.toList.drop 0).take 1))[0]? = some (.int .u64 52) := by rw [hz]; rfl
  simpa using h0
set_option maxRecDepth 100000 in
theorem pow_cells {W : World} (h : laidMet Tryz.prog laidL W) : ∃ g o c, W.cell? ⟨16, 0, none⟩ = some (.slice (some ⟨g, o, none⟩) 23 c) ∧ g < W.heap.size ∧ W.cell? ⟨g, o + 1, none⟩ = some (.float .f64 4621819117588971520) := by
  obtain ⟨g, t, cs, fuel, p, hg, ht, hv, hd⟩ := Lib.laidMet.reads h (n := "internal/strconv.float64pow10") (d := Rows.laid_internal_strconv_float64pow10) (by simp [laidL, Rows.lexWordsRow])
  obtain rfl := Option.some.inj ((show Tryz.prog.globalNamed "internal/strconv.float64pow10" = some 16 by kernel_rfl).symm.trans hg)
  obtain rfl := Option.some.inj ((show (Tryz.prog.globals[16]?).map (·.type) = some 244 by kernel_rfl).symm.trans ht)
  rcases DataW.trod_slice Tryz.underlying244 hd with ⟨_, hx⟩ | ⟨a, len, cap, el, rs, m, rfl, hcs, hx, _, hlc, _, hel, helem, hsp, _⟩
  · cases hx
  have e0 := congrArg Prod.fst hx
  simp only [Rows.laid_internal_strconv_float64pow10, DataW.slice.injEq] at e0
  obtain ⟨eE, eR⟩ := e0
  have hlen : len = 23 := by
    have := congrArg List.length eE
    simp at this
    omega
  subst hlen
  have h1 := helem 1 (by decide)
  rw [show Tryz.prog.cellsOf 29 = 1 by kernel_rfl] at h1
  have hb1 : (el[1]?).map (·.1) = some (.lit (.float .f64 4621819117588971520)) := by
    rw [← List.getElem?_map, ← eE]
    rfl
  obtain ⟨b, hb, hb1⟩ := Option.map_eq_some_iff.1 hb1
  rw [hb] at h1
  obtain ⟨ce, hce, hte⟩ := Option.bind_eq_some_iff.1 h1
  obtain ⟨z, hz, hbz⟩ := trod_float Tryz.underlying29 hte
  have hz2 : z = 4621819117588971520 := by
    rw [hbz] at hb1
    simpa using hb1
  subst hz2
  obtain ⟨_, _, hcc⟩ := World.cells?_some hce
  have h2 := hcc 0 (by omega)
  rw [hz] at h2
  have e1 : (a.add (1 * 1)).add 0 = a.add 1 := by simp [Addr.add]
  rw [e1] at h2
  have k1 := helem 0 (by decide)
  rw [show Tryz.prog.cellsOf 29 = 1 by kernel_rfl] at k1
  obtain ⟨ke, kce, kte⟩ := Option.bind_eq_some_iff.1 (k1.trans (List.getElem?_eq_getElem (by omega)))
  obtain ⟨kz, khz, _⟩ := trod_float Tryz.underlying29 kte
  obtain ⟨_, _, kcc⟩ := World.cells?_some kce
  have k2 := kcc 0 (by omega)
  rw [khz] at k2
  have k3 : (a.add (0 * 1)).add 0 = a := by simp [Addr.add]
  rw [k3] at k2
  obtain ⟨R, o, sR⟩ := a
  obtain rfl : sR = none := Go.Proofs.cell_spot k2
  have h3 : W.cell? ⟨R, o + 1, none⟩ = some (.float .f64 4621819117588971520) := by simpa [Addr.add] using h2
  refine ⟨R, o, cap, ?_, ?_, h3⟩
  · rw [World.var?_cell hg hv 0, ← Array.getElem?_toList, hcs]
    rfl
  · rcases Nat.lt_or_ge R W.heap.size with hlt | hge
    · exact hlt
    · simp [World.cell?, Array.getElem?_eq_none hge] at h3
set_option maxRecDepth 100000 in
theorem space_tab {W : World} (h : laidMet Tryz.prog laidL W) : Lib.TabIs Tryz.prog W "strings.asciiSpace" .u8 Lib.asciiSpaceTab := by
  obtain ⟨g, t, cs, fuel, p, hg, ht, hv, hd⟩ := Lib.laidMet.reads h (n := "strings.asciiSpace") (d := Rows.laid_strings_asciiSpace) (by simp [laidL, Rows.lexWordsRow])
  obtain rfl := Option.some.inj ((show Tryz.prog.globalNamed "strings.asciiSpace" = some 0 by kernel_rfl).symm.trans hg)
  rw [show (Rows.laid_strings_asciiSpace : DataW Unit) = Lib.tabData .u8 Lib.asciiSpaceTab by kernel_rfl] at hd
  have hty : (Tryz.prog.globals[0]?).map (·.type) = some t := ht
  obtain ⟨n, e, hu⟩ : ∃ n e, Tryz.prog.underlying t = some (.array n e) ∧ Tryz.prog.underlying e = some (.int .u8) ∧ Tryz.prog.cellsOf e = 1 ∧ Tryz.prog.cellsOf t = n := by
    have e : (((Tryz.prog.globals[0]?).map (·.type)).bind fun t => match Tryz.prog.underlying t with | some (.array n e) => some ((match Tryz.prog.underlying e with | some (.int .u8) => true | _ => false) && decide (Tryz.prog.cellsOf e = 1) && decide (Tryz.prog.cellsOf t = n)) | _ => none) = some true := by kernel_rfl
    rw [hty] at e
    simp only [Option.bind_some] at e
    cases hu : Tryz.prog.underlying t with
    | none => rw [hu] at e; cases e
    | some u =>
      rw [hu] at e
      cases u with
      | array n e' =>
        simp only [Option.some.injEq, Bool.and_eq_true, decide_eq_true_eq] at e
        refine ⟨n, e', rfl, ?_, e.1.2, e.2⟩
        have e1 := e.1.1
        split at e1
        · assumption
        · cases e1
      | _ => cases e
  have hcs := Lib.cells_of_tab hu.1 hu.2.1 hu.2.2.1 hu.2.2.2 hd
  show W.var? Tryz.prog "strings.asciiSpace" = _
  rw [hv, ← hcs]
theorem max_cell {W : World} (h : W.ShapedOpen Tryz.prog) : ∃ m, W.cell? ⟨1, 0, none⟩ = some (.int .i64 m) :=
  cell_of_shapedOpen_int (t := 3) (zero := #[.int .i64 0]) h (of_decide_eq_true (by kernel_rfl)) (by kernel_rfl) rfl (by kernel_rfl) (by kernel_rfl) Tryz.underlying3
theorem lt_of_cell {W : World} {b o : Nat} {v : Value} (h : W.cell? ⟨b, o, none⟩ = some v) : b < W.heap.size := by
  rcases Nat.lt_or_ge b W.heap.size with hlt | hge
  · exact hlt
  · simp [World.cell?, Array.getElem?_eq_none hge] at h
theorem ready_of {W : World} (hs : W.ShapedOpen Tryz.prog) (hL : laidMetH Tryz.prog laidL W) : Ready W := by
  have hl := laid_plain hL
  obtain ⟨m, hm⟩ := max_cell hs
  obtain ⟨g, o, c, h1, h2, h3⟩ := pow_cells hl
  have ht := space_tab hl
  refine ⟨⟨lt_of_cell hm, m, hm⟩, ⟨opt_cell hl, inf_cell hl, ⟨g, o, c, h1, h2, h3⟩, lt_of_cell h1⟩, fun w' hb => ?_⟩
  have h0 : 0 < W.heap.size := by have := lt_of_cell hm; omega
  unfold Lib.TabIs World.var? at ht ⊢
  rw [show Tryz.prog.globalNamed "strings.asciiSpace" = some 0 by kernel_rfl] at ht ⊢
  simp only [Option.bind_some] at ht ⊢
  rw [hb.block 0 h0]
  exact ht
end Go.Proofs.YtcgibcjpkhefpaaGreatDoor
namespace Go.Proofs.YtcgibcjpkhefpaaGreatDoor
open Go.ChangeShapes Go.WideShapes Go.ChangeAt Go.RowKit
variable {H : Type} {enc : TypeId × Value → H}
theorem handed_and_shaped {C : Checked} {os : Os} {f : FuncId} {fn : Func} {s : ChangeSpec} {X : World → Array Value → Prop}
    (hX : ∀ (w w' : World) (args : Array Value), w.heap = w'.heap → X w args → X w' args)
    (own : ownKnob C.prog.godebug = none) (started : os.Started) (noInit : C.prog.inits.idxOf? f = none) (hfn : C.prog.funcs[f]? = some fn)
    (witness : ∃ (w : World) (tape : Tape) (i : Input), w.os = os ∧ (w.forCall tape i).Shaped C.prog ∧ i.vars = [] ∧ Input.okWide C.prog (w.forCall tape i) .any w.heap.size f i ∧
      ((s.pre enc C.prog fn [] false (w.forCall tape i).memory i.args ∧ X (w.forCall tape i).memory i.args) ∧ sizedMet enc C.prog fn (OpenSpec.ofChange s) false (w.forCall tape i).memory i.args) ∧ (({} : Assume)).holds C.prog (lone (Frame.enter C.prog f i.args .normal) [] (w.forCall tape i)))
    (contract : ∀ (W : World) (base : Nat) (args : Array Value) (ds gs : List (DataW H)) (before : List MemPlace),
      (∀ (j : Nat) t v, fn.params[j]? = some t → args[j]? = some v → Value.okWide C.prog W .any base t v) →
      DataW.Whole enc C.prog fn.params.toList s.vars false W args.toList ds gs before → X W args → W.ShapedOpen C.prog →
      Calls C.prog f args W fun e W' => ∃ v, e = .returned v ∧ s.post enc C.prog fn false true false false W args v W') :
    ReturnsInHanded {} C os f .any (fun w args => (s.pre enc C.prog fn [] false w args ∧ X w args) ∧ sizedMet enc C.prog fn (OpenSpec.ofChange s) false w args) (s.post enc C.prog fn false true false false) := by
  refine returnsInHanded_of_calls own started noInit witness fun w tape i _ hshape _ hok hpre _ => ?_
  obtain ⟨_, _, _, fn2, hfn2, _, _, _, _, hval⟩ := hok
  obtain rfl : fn2 = fn := Option.some.inj (hfn2.symm.trans hfn)
  obtain ⟨⟨⟨ds, gs, before, hwhole, _⟩, hx⟩, _⟩ := hpre
  have hwhole' := DataW.Whole.of_heap (w' := w.forCall tape i) (by rfl) hwhole
  refine (contract (w.forCall tape i) w.heap.size i.args ds gs before hval hwhole' (hX _ _ _ (by rfl) hx) hshape).mono ?_
  rintro e W' ⟨v, rfl, hp⟩
  exact ChangeSpec.post_blind hp
theorem own_knob : ownKnob Tryz.prog.godebug = none := by kernel_rfl
end Go.Proofs.YtcgibcjpkhefpaaGreatDoor
