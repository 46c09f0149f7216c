/-
  From the condition of the given row to what the walk of LexCovers asks of the memory.
-/
import Derived.Test.YtcgibcjpkhefpaaGreatDoorZE5
import Derived.Test.YtcgibcjpkhefpaaGreatDoorZL4
import Derived.Test.YtcgibcjpkhefpaaGreatDoorZR
namespace Go.Proofs.YtcgibcjpkhefpaaGreatDoor
open Go.ChangeShapes Go.WideShapes Go.ChangeAt Go.RowKit
section
variable {H : Type} {enc : TypeId × Value → H} {P : Program} {w : World} {base : Nat} {spare : Nat → Bool} {held : Bool}
theorem trod_iface {fuel : Nat} {t : TypeId} {cs : List Value} {x : DataW H × List MemPlace} (ht : (match P.underlying t with | some (.interface _) => true | _ => false) = true) (h : DataW.trod enc P w base spare held fuel t cs = some x) : cs = [.nilIface] ∨ ∃ u v, cs = [.iface u v] := by
  cases fuel with
  | zero => simp [DataW.trod] at h
  | succ n =>
    unfold DataW.trod at h
    cases hu : P.underlying t with
    | none => rw [hu] at ht; cases ht
    | some d =>
      rw [hu] at ht h
      cases d <;> first | (cases ht; done) | (split at h <;> simp_all)
/-- One field of a struct. -/
theorem fld {fuel : Nat} {t ty : TypeId} {fs : Array Field} {i off : Nat} {cs : List Value} {ds : List (DataW H)} {d : DataW H} {p : List MemPlace} (hu : P.underlying t = some (.struct fs)) (hf : (fs[i]?.map fun f => (f.type, f.offset)) = some (ty, off))
    (h : DataW.trod enc P w base spare held fuel t cs = some (.agg ds, p)) (hz : ds[i]? = some d) : ∃ m q, DataW.trod enc P w base spare held m ty ((cs.drop off).take (P.cellsOf ty)) = some (d, q) := by
  obtain ⟨xs, n, _, hx, hcl, hxl, hall⟩ := DataW.trod_struct hu h
  obtain ⟨f, hfe, hfp⟩ := Option.map_eq_some_iff.1 hf
  have h0 := hall i f hfe
  simp only [Prod.mk.injEq] at hfp
  rw [hfp.1, hfp.2] at h0
  have hxs : xs.map (·.1) = ds := by
    have := congrArg Prod.fst hx
    simpa using this.symm
  have hb1 : (xs[i]?).map (·.1) = some d := by rw [← List.getElem?_map, hxs, hz]
  obtain ⟨b, hb, hb1⟩ := Option.map_eq_some_iff.1 hb1
  rw [hb] at h0
  exact ⟨n, b.2, by rw [h0, ← hb1]⟩
theorem take1 {cs : List Value} {o : Nat} {v : Value} (h : (cs.drop o).take 1 = [v]) : cs[o]? = some v := by
  have := congrArg (·[0]?) h
  simpa [List.getElem?_take, List.getElem?_drop] using this
theorem fld_int {fuel : Nat} {t ty : TypeId} {fs : Array Field} {i off : Nat} {cs : List Value} {ds : List (DataW H)} {k : IntKind} {z : Int} {p : List MemPlace} (hu : P.underlying t = some (.struct fs)) (hf : (fs[i]?.map fun f => (f.type, f.offset)) = some (ty, off))
    (hty : P.underlying ty = some (.int k)) (hc : P.cellsOf ty = 1) (h : DataW.trod enc P w base spare held fuel t cs = some (.agg ds, p)) (hz : ds[i]? = some (.lit (.int k z))) : cs[off]? = some (.int k z) ∧ (Lit.int k z).wf = true := by
  obtain ⟨m, q, h1⟩ := fld hu hf h hz
  rw [hc] at h1
  obtain ⟨z', h2, h3, h4⟩ := DataW.trod_int hty h1
  have e := congrArg Prod.fst h3
  simp only [DataW.lit.injEq, Lit.int.injEq, true_and] at e
  subst e
  exact ⟨take1 h2, h4⟩
theorem fld_str {fuel : Nat} {t ty : TypeId} {fs : Array Field} {i off : Nat} {cs : List Value} {ds : List (DataW H)} {s : List UInt8} {p : List MemPlace} (hu : P.underlying t = some (.struct fs)) (hf : (fs[i]?.map fun f => (f.type, f.offset)) = some (ty, off))
    (hty : P.underlying ty = some .string) (hc : P.cellsOf ty = 1) (h : DataW.trod enc P w base spare held fuel t cs = some (.agg ds, p)) (hz : ds[i]? = some (.lit (.string s))) : cs[off]? = some (.string ⟨s.toArray⟩) := by
  obtain ⟨m, q, h1⟩ := fld hu hf h hz
  rw [hc] at h1
  obtain ⟨z', h2, h3, h4⟩ := DataW.trod_string hty h1
  have e := congrArg Prod.fst h3
  simp only [DataW.lit.injEq, Lit.string.injEq] at e
  subst e
  exact take1 h2
end
theorem struct_at {t : TypeId} {l : List (TypeId × Nat)} (he : (match Tryz.prog.underlying t with | some (.struct fs) => some (fs.toList.map fun f : Field => (f.type, f.offset)) | _ => none) = some l) : ∃ fs, Tryz.prog.underlying t = some (.struct fs) ∧ ∀ i : Nat, ((fs[i]?).map fun f : Field => (f.type, f.offset)) = l[i]? := by
  cases hu : Tryz.prog.underlying t with
  | none => rw [hu] at he; cases he
  | some u =>
    rw [hu] at he
    cases u with
    | struct fs =>
      refine ⟨fs, rfl, fun i => ?_⟩
      have h2 := Option.some.inj he
      subst h2
      rw [List.getElem?_map, Array.getElem?_toList]
    | _ => cases he
theorem cell_first {W : World} {n : String} {g : Nat} {cs : Array Value} {x : Value} (hg : Tryz.prog.globalNamed n = some g) (hv : W.var? Tryz.prog n = some cs) (hc : cs.toList = [x]) : W.cell? ⟨g, 0, none⟩ = some x := by
  rw [World.var?_cell hg hv 0, ← Array.getElem?_toList, hc]; rfl
theorem cell_nth {W : World} {n : String} {g i : Nat} {cs : Array Value} {x : Value} (hg : Tryz.prog.globalNamed n = some g) (hv : W.var? Tryz.prog n = some cs) (hc : cs.toList[i]? = some x) : W.cell? ⟨g, i, none⟩ = some x := by
  rw [World.var?_cell hg hv i, ← Array.getElem?_toList, hc]
abbrev laidC : List (String × DataW Unit) := Rows.lexCoversRow.laid
/-- A listed variable, its place and its type named. -/
theorem var_of {W : World} (h : laidMet Tryz.prog laidC W) {n : String} {d : DataW Unit} (hm : (n, d) ∈ laidC) {g : Nat} {t : TypeId} (hg : Tryz.prog.globalNamed n = some g) (ht : (Tryz.prog.globals[g]?).map (·.type) = some t) :
    ∃ cs fuel p, W.var? Tryz.prog n = some cs ∧ DataW.trod (fun _ => ()) Tryz.prog W 0 (fun _ => true) false fuel t cs.toList = some (d, p) := by
  obtain ⟨g', t', cs, fuel, p, h1, h2, h3, h4⟩ := Lib.laidMet.reads h hm
  obtain rfl := Option.some.inj (hg.symm.trans h1)
  obtain rfl := Option.some.inj (ht.symm.trans h2)
  exact ⟨cs, fuel, p, h3, h4⟩
theorem errs_of {W : World} (h : laidMet Tryz.prog laidC W) : Errs W := by
  obtain ⟨c1, f1, p1, v1, d1⟩ := var_of h (n := "strconv.ErrSyntax") (d := Rows.laid_strconv_ErrSyntax) (by simp [laidC, Rows.lexCoversRow]) (g := 7) (t := 82) (by kernel_rfl) (by kernel_rfl)
  obtain ⟨c2, f2, p2, v2, d2⟩ := var_of h (n := "strconv.ErrRange") (d := Rows.laid_strconv_ErrRange) (by simp [laidC, Rows.lexCoversRow]) (g := 8) (t := 82) (by kernel_rfl) (by kernel_rfl)
  constructor
  · rcases trod_iface (by kernel_rfl) d1 with e | ⟨u, v, e⟩
    · exact ⟨_, cell_first (by kernel_rfl) v1 e, Or.inl rfl⟩
    · exact ⟨_, cell_first (by kernel_rfl) v1 e, Or.inr ⟨u, v, rfl⟩⟩
  · rcases trod_iface (by kernel_rfl) d2 with e | ⟨u, v, e⟩
    · exact ⟨_, cell_first (by kernel_rfl) v2 e, Or.inl rfl⟩
    · exact ⟨_, cell_first (by kernel_rfl) v2 e, Or.inr ⟨u, v, rfl⟩⟩
theorem fi_of {W : World} (h : laidMet Tryz.prog laidC W) : FI W := by
  obtain ⟨c1, f1, p1, v1, d1⟩ := var_of h (n := "internal/strconv.float64info") (d := Rows.laid_internal_strconv_float64info) (by simp [laidC, Rows.lexCoversRow]) (g := 11) (t := 204) (by kernel_rfl) (by kernel_rfl)
  obtain ⟨fs, hu, hf⟩ := struct_at (t := 204) (l := [(56, 0), (56, 1), (3, 2)]) (by kernel_rfl)
  have hg : Tryz.prog.globalNamed "internal/strconv.float64info" = some 11 := by kernel_rfl
  exact ⟨cell_nth hg v1 (fld_int (i := 0) hu (hf 0) Tryz.underlying56 (by kernel_rfl) d1 rfl).1, cell_nth hg v1 (fld_int (i := 1) hu (hf 1) Tryz.underlying56 (by kernel_rfl) d1 rfl).1, cell_nth hg v1 (fld_int (i := 2) hu (hf 2) Tryz.underlying3 (by kernel_rfl) d1 rfl).1⟩
theorem addr_of {W : World} {a : Addr} {v : Value} (h : W.cell? (a.add 0) = some v) : ∃ g o, a = ⟨g, o, none⟩ := by
  have e : a.add 0 = a := by simp [Addr.add]
  rw [e] at h
  obtain ⟨g, o, sp⟩ := a
  obtain rfl : sp = none := Go.Proofs.cell_spot h
  exact ⟨g, o, rfl⟩
theorem add_at (g o i : Nat) : (⟨g, o, none⟩ : Addr).add i = ⟨g, o + i, none⟩ := by simp [Addr.add]
def powL : List Nat := [1, 3, 6, 9, 13, 16, 19, 23, 26]
theorem powL_ok : ∀ i, i < 9 → 1 ≤ powL.getD i 0 ∧ powL.getD i 0 ≤ 27 := by decide
theorem pt_of {W : World} (h : laidMet Tryz.prog laidC W) : ∃ g o c, PT g o c W ∧ g < W.heap.size := by
  obtain ⟨c1, f1, p1, v1, d1⟩ := var_of h (n := "internal/strconv.powtab") (d := Rows.laid_internal_strconv_powtab) (by simp [laidC, Rows.lexCoversRow]) (g := 15) (t := 48) (by kernel_rfl) (by kernel_rfl)
  have d2 : DataW.trod (fun _ => ()) Tryz.prog W 0 (fun _ => true) false f1 48 c1.toList = some (.slice (powL.map fun z : Nat => (.lit (.int .i64 z) : DataW Unit)) [], p1) := d1
  obtain ⟨a, cap, hc, _, hall⟩ := open_row (e := 3) (by kernel_rfl) (by kernel_rfl) d2
  have hat : ∀ i, i < 9 → W.cell? (a.add i) = some (.int .i64 (powL.getD i 0 : Nat)) := by
    intro i hi
    have hl : i < powL.length := hi
    obtain ⟨v, n, q, h1, h2⟩ := hall i (.lit (.int .i64 (powL.getD i 0 : Nat))) (by rw [List.getElem?_map, List.getElem?_eq_getElem hl, List.getD_eq_getElem?_getD, List.getElem?_eq_getElem hl]; rfl)
    obtain ⟨z, h3, h4, _⟩ := DataW.trod_int Tryz.underlying3 h2
    have e := congrArg Prod.fst h4
    simp only [DataW.lit.injEq, Lit.int.injEq, true_and] at e
    subst e
    rw [h1, List.cons.inj h3 |>.1]
  obtain ⟨R, o, rfl⟩ := addr_of (hat 0 (by omega))
  refine ⟨R, o, cap, ⟨cell_first (by kernel_rfl) v1 hc, fun i hi => ⟨powL.getD i 0, (powL_ok i hi).1, (powL_ok i hi).2, ?_⟩⟩, lt_of_cell (by rw [← add_at]; exact hat 0 (by omega))⟩
  rw [← add_at]; exact hat i hi
def fltL : List Nat := match (Rows.laid_internal_strconv_float64pow10 : DataW Unit) with
  | .slice ds _ => ds.map fun | .lit (.float _ x) => x | _ => 0
  | _ => []
set_option maxRecDepth 100000 in
theorem fltL_ok : ∀ i, i < 23 → Fl.Pw (fltL.getD i 0) := by decide +kernel
set_option maxRecDepth 100000 in
theorem px_of {W : World} (h : laidMet Tryz.prog laidC W) : ∃ g o c, PX g o c W ∧ g < W.heap.size := by
  obtain ⟨c1, f1, p1, v1, d1⟩ := var_of h (n := "internal/strconv.float64pow10") (d := Rows.laid_internal_strconv_float64pow10) (by simp [laidC, Rows.lexCoversRow]) (g := 16) (t := 244) (by kernel_rfl) (by kernel_rfl)
  have d2 : DataW.trod (fun _ => ()) Tryz.prog W 0 (fun _ => true) false f1 244 c1.toList = some (.slice (fltL.map fun z : Nat => (.lit (.float .f64 z) : DataW Unit)) [], p1) := d1
  obtain ⟨a, cap, hc, _, hall⟩ := open_row (e := 29) Tryz.underlying244 (by kernel_rfl) d2
  have hat : ∀ i, i < 23 → W.cell? (a.add i) = some (.float .f64 (fltL.getD i 0)) := by
    intro i hi
    have hl : i < fltL.length := hi
    obtain ⟨v, n, q, h1, h2⟩ := hall i (.lit (.float .f64 (fltL.getD i 0))) (by rw [List.getElem?_map, List.getElem?_eq_getElem hl, List.getD_eq_getElem?_getD, List.getElem?_eq_getElem hl]; rfl)
    obtain ⟨z, h3, h4⟩ := trod_float Tryz.underlying29 h2
    have e := congrArg Prod.fst h4
    simp only [DataW.lit.injEq, Lit.float.injEq, true_and] at e
    subst e
    rw [h1, List.cons.inj h3 |>.1]
  obtain ⟨R, o, rfl⟩ := addr_of (hat 0 (by omega))
  refine ⟨R, o, cap, ⟨cell_first (by kernel_rfl) v1 hc, fun i hi => ⟨fltL.getD i 0, fltL_ok i hi, ?_⟩⟩, lt_of_cell (by rw [← add_at]; exact hat 0 (by omega))⟩
  rw [← add_at]; exact hat i hi
set_option maxRecDepth 100000 in
theorem lc_of {W : World} (h : laidMet Tryz.prog laidC W) : ∃ g o c, LC g o c W ∧ g < W.heap.size := by
  obtain ⟨c1, f1, p1, v1, d1⟩ := var_of h (n := "internal/strconv.leftcheats") (d := Rows.laid_internal_strconv_leftcheats) (by simp [laidC, Rows.lexCoversRow]) (g := 18) (t := 254) (by kernel_rfl) (by kernel_rfl)
  obtain ⟨fs, hu, hf⟩ := struct_at (t := 253) (l := [(3, 0), (9, 1)]) (by kernel_rfl)
  have hlen : Pinned.cheatRows.length = 61 := Dec.rows_len
  have hgt : Tryz.prog.globalNamed "internal/strconv.leftcheats" = some 18 := by kernel_rfl
  rcases DataW.trod_slice (e := 253) (by kernel_rfl) d1 with ⟨_, hx⟩ | ⟨a, len, cap, el, rs, m, _, hcs, hx, _, _, _, hel, helem, _, _⟩
  · cases hx
  · have e0 := congrArg Prod.fst hx
    simp only [Rows.laid_internal_strconv_leftcheats, Pinned.leftcheats, DataW.slice.injEq] at e0
    obtain ⟨eE, eR⟩ := e0
    have hl : len = 61 := by
      have := congrArg List.length eE
      simp only [List.length_map, hlen] at this
      omega
    subst hl
    rw [show Tryz.prog.cellsOf 253 = 2 by kernel_rfl] at helem
    have hat : ∀ i, i ≤ 60 → W.cell? (a.add (i * 2)) = some (.int .i64 (Dec.row i).1) ∧ W.cell? ((a.add (i * 2)).add 1) = some (.string ⟨(Dec.row i).2.toArray⟩) := by
      intro i hi
      have h1 := helem i (by omega)
      have hb1 : (el[i]?).map (·.1) = some (.agg [.lit (.int .i64 (Dec.row i).1), .lit (.string (Dec.row i).2)]) := by
        rw [← List.getElem?_map, ← eE, List.getElem?_map, Dec.row_at hi]; rfl
      obtain ⟨b, hb, hb1⟩ := Option.map_eq_some_iff.1 hb1
      rw [hb] at h1
      obtain ⟨ce, hce, hte⟩ := Option.bind_eq_some_iff.1 h1
      have hte : DataW.trod (fun _ => ()) Tryz.prog W 0 (fun _ => true) false m 253 ce = some (.agg [.lit (.int .i64 (Dec.row i).1), .lit (.string (Dec.row i).2)], b.2) := by rw [hte, ← hb1]
      obtain ⟨_, _, hcc⟩ := World.cells?_some hce
      have k0 := hcc 0 (by omega)
      have k1 := hcc 1 (by omega)
      rw [(fld_int (i := 0) hu (hf 0) Tryz.underlying3 (by kernel_rfl) hte rfl).1] at k0
      rw [fld_str (i := 1) hu (hf 1) Tryz.underlying9 (by kernel_rfl) hte rfl] at k1
      have e1 : (a.add (i * 2)).add 0 = a.add (i * 2) := by simp [Addr.add]
      rw [e1] at k0
      exact ⟨k0, k1⟩
    obtain ⟨R, o, rfl⟩ := addr_of (by have := (hat 0 (by omega)).1; rwa [Nat.zero_mul] at this)
    refine ⟨R, o, cap, ⟨cell_first hgt v1 hcs, fun k hk => ?_, fun k hk => ?_⟩, lt_of_cell (b := R) (o := o) (v := .int .i64 (Dec.row 0).1) (by have := (hat 0 (by omega)).1; rw [add_at] at this; exact this)⟩
    · have := (hat k hk).1
      rwa [add_at] at this
    · have := (hat k hk).2
      rwa [add_at, add_at] at this
theorem wf_u64 {z : Nat} (h : (Lit.int .u64 (z : Int)).wf = true) : z < 18446744073709551616 := by
  simp [Lit.wf, IntKind.min, IntKind.max, IntKind.signed, IntKind.bits] at h
  omega
set_option maxRecDepth 100000 in
theorem pw_of {W : World} (h : laidMet Tryz.prog laidC W) : PW W := by
  obtain ⟨c1, f1, p1, v1, d1⟩ := var_of h (n := "internal/strconv.pow10Tab") (d := Rows.laid_internal_strconv_pow10Tab) (by simp [laidC, Rows.lexCoversRow]) (g := 17) (t := 249) (by kernel_rfl) (by kernel_rfl)
  obtain ⟨fs, hu, hf⟩ := struct_at (t := 248) (l := [(113, 0), (113, 1)]) (by kernel_rfl)
  have hgt : Tryz.prog.globalNamed "internal/strconv.pow10Tab" = some 17 := by kernel_rfl
  have d2 : DataW.trod (fun _ => ()) Tryz.prog W 0 (fun _ => true) false f1 249 c1.toList = some (.agg (Pinned.pow10Rows.map fun x => .agg [.lit (.int .u64 x.1), .lit (.int .u64 x.2)]), p1) := d1
  intro i hi
  obtain ⟨f2, d, q, hd, he⟩ := Lib.array_elem (e := 248) (n := 696) (by kernel_rfl) d2 i hi
  rw [show Tryz.prog.cellsOf 248 = 2 by kernel_rfl] at he
  rw [List.getElem?_map] at hd
  obtain ⟨x, hx, rfl⟩ := Option.map_eq_some_iff.1 hd
  obtain ⟨a1, a2⟩ := fld_int (i := 0) hu (hf 0) (by kernel_rfl) (by kernel_rfl) he rfl
  obtain ⟨b1, b2⟩ := fld_int (i := 1) hu (hf 1) (by kernel_rfl) (by kernel_rfl) he rfl
  refine ⟨x.1, x.2, wf_u64 a2, wf_u64 b2, cell_nth hgt v1 ?_, cell_nth hgt v1 ?_⟩
  · simpa [List.getElem?_take, List.getElem?_drop] using a1
  · simpa [List.getElem?_take, List.getElem?_drop] using b1
theorem it_tab {W : World} (h : laidMet Tryz.prog laidC W) : Lib.TabIs Tryz.prog W "internal/strconv.uint64pow10" .u64 Lib.pow10Tab := by
  obtain ⟨c1, f1, p1, v1, d1⟩ := var_of h (n := "internal/strconv.uint64pow10") (d := Rows.laid_internal_strconv_uint64pow10) (by simp [laidC, Rows.lexCoversRow]) (g := 6) (t := 184) (by kernel_rfl) (by kernel_rfl)
  rw [show (Rows.laid_internal_strconv_uint64pow10 : DataW Unit) = Lib.tabData .u64 Lib.pow10Tab by kernel_rfl] at d1
  have hcs := Lib.cells_of_tab (n := 20) (e := 113) (by kernel_rfl) (by kernel_rfl) (by kernel_rfl) (by kernel_rfl) d1
  show W.var? Tryz.prog "internal/strconv.uint64pow10" = _
  rw [v1, ← hcs]
theorem u8x : U8Extra Tryz.prog Tryz.lays260_ren := ⟨by kernel_rfl, by kernel_rfl, by kernel_rfl, by kernel_rfl, by kernel_rfl, by kernel_rfl, by kernel_rfl⟩
set_option maxRecDepth 100000 in
theorem ut_tab {W : World} (h : laidMet Tryz.prog laidC W) : Lib.Utf8Tabs 3 4 W := by
  have h3 := Lib.laidMet.reads h (n := "unicode/utf8.first") (d := Rows.laid_unicode_utf8_first) (by simp [laidC, Rows.lexCoversRow])
  have h4 := Lib.laidMet.reads h (n := "unicode/utf8.acceptRanges") (d := Rows.laid_unicode_utf8_acceptRanges) (by simp [laidC, Rows.lexCoversRow])
  rw [show (Rows.laid_unicode_utf8_first : DataW Unit) = Lib.firstData by kernel_rfl] at h3
  rw [show (Rows.laid_unicode_utf8_acceptRanges : DataW Unit) = Lib.acceptData by kernel_rfl] at h4
  exact utf8Tabs_of_reads Tryz.lays260 u8x h3 h4
theorem readyC_of {W : World} (hs : W.ShapedOpen Tryz.prog) (hL : laidMetH Tryz.prog laidC W) : ReadyC W := by
  have hR : Ready W := ready_of hs hL
  have hl : laidMet Tryz.prog laidC W := by rwa [MakeChecks.laidMetH_plain _ _ _ (by kernel_rfl)] at hL
  obtain ⟨gl, ol, cl, hlc, hll⟩ := lc_of hl
  have h18 := lt_of_cell hlc.v
  have hT : Tabs W := ⟨hR.fv.opt, fi_of hl, pw_of hl, pt_of hl, ⟨gl, ol, cl, hlc, hll⟩, px_of hl, h18⟩
  have hi := it_tab hl
  have hu := ut_tab hl
  refine ⟨hR, pfOk_of hT (errs_of hl), fun w hb => ?_, fun w hb => ?_⟩
  · unfold Lib.TabIs World.var? at hi ⊢
    rw [show Tryz.prog.globalNamed "internal/strconv.uint64pow10" = some 6 by kernel_rfl] at hi ⊢
    simp only [Option.bind_some] at hi ⊢
    rw [hb.block 6 (by omega)]
    exact hi
  · refine ⟨fun c hc => ?_, fun i hi => ⟨?_, ?_⟩⟩
    · rw [hb.cell (p := ⟨3, c, none⟩) (by show 3 < _; omega)]; exact hu.1 c hc
    · rw [hb.cell (p := ⟨4, 2 * i, none⟩) (by show 4 < _; omega)]; exact (hu.2 i hi).1
    · rw [hb.cell (p := ⟨4, 2 * i + 1, none⟩) (by show 4 < _; omega)]; exact (hu.2 i hi).2
end Go.Proofs.YtcgibcjpkhefpaaGreatDoor
