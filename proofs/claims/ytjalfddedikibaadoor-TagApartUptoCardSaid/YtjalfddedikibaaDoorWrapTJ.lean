/- What every claim of this seat needs: a world whose listed tables read as the program lays them; what a world that fits gives the walks; a tag among a law's arguments. -/
import Derived.Test.YtjalfddedikibaaDoorCards
import Derived.Test.YtjalfddedikibaaDoorTie
import Derived.ProofKit
import Derived.OpenShut
import Derived.Deep.DeepHandedRow
import Derived.Deep.SlicePairs
import Derived.Lib.LaidTab
import Derived.Carry
import Derived.MakeChecks
import Derived.Stop.LaidErr
import Derived.Test.YtjalfddedikibaaDoorMc
import Derived.Test.YtjalfddedikibaaDoorTagFJ
namespace Go.Proofs.YtjalfddedikibaaDoor
open Go Go.ChangeShapes Go.ChangeMaps Go.WideShapes Go.ChangeAt Go.RowKit

theorem ownNone : ownKnob Tryd.prog.godebug = none := by kernel_rfl
theorem laidOut : laidOutB Tryd.prog = true := by kernel_rfl
def litV : DataW Unit → Value
  | .lit (.int k n) => .int k n
  | .lit (.string l) => .string ⟨l.toArray⟩
  | _ => undef
def rowV1 : DataW Unit → List Value
  | .agg l => l.map litV
  | d => [litV d]
def rowV : DataW Unit → List Value
  | .agg l => l.flatMap rowV1
  | _ => []
def putV (cs : List Value) : Obj → Obj
  | .cells _ t frozen => .cells cs.toArray t frozen
  | o => o
/-- the settled world, each listed table as the program's text lays it -/
noncomputable def laidWorld (os : Os) : World :=
  { World.holding Tryd.prog os ⟨#[], #[], []⟩ with heap := ([
    (3, Rows.laid_turnpike_stamp_weekdays),
    (4, Rows.laid_turnpike_stamp_months),
    (2, Rows.laid_unicode_utf8_acceptRanges),
    (1, Rows.laid_unicode_utf8_first)] : List (Nat × DataW Unit)).foldl (fun h x => h.modify x.1 (putV (rowV x.2))) (World.holding Tryd.prog os ⟨#[], #[], []⟩).heap }
theorem size_of_shaped {w : World} (h : w.ShapedOpen Tryd.prog) : 5 ≤ w.heap.size := by
  have key : ∀ (g : Nat) (zero : Array Value) (t : TypeId), g < Tryd.prog.globals.size → (((begin Tryd.prog (fun _ _ => 0) default).world).heap[g]?).bind Obj.row? = some (zero, t) → g < w.heap.size := by
    intro g zero t hg hz
    obtain ⟨cs, hc, _⟩ := h.1 g zero t hg hz
    obtain ⟨hlt, _⟩ := Array.getElem?_eq_some_iff.1 hc
    exact hlt
  have hs : ((((begin Tryd.prog (fun _ _ => 0) default).world).heap[5 - 1]?).bind Obj.row?).isSome = true := by kernel_rfl
  obtain ⟨⟨z, t⟩, h5⟩ := Option.isSome_iff_exists.1 hs
  have := key (5 - 1) z t (of_decide_eq_true (by kernel_rfl)) h5
  omega
def strData {H : Type} (zs : List (List UInt8)) : DataW H := .agg (zs.map fun z => .lit (.string z))
theorem cells_of_strs {H : Type} {enc : TypeId × Value → H} {P : Program} {w : World} {base : Nat} {sp : Nat → Bool} {held : Bool} {fuel : Nat} {t e : TypeId} {n : Nat} {cs : List Value} {zs : List (List UInt8)} {p : List MemPlace}
    (ht : P.underlying t = some (.array n e)) (he : P.underlying e = some .string) (hce : P.cellsOf e = 1) (hct : P.cellsOf t = n)
    (h : DataW.trod enc P w base sp held fuel t cs = some (strData zs, p)) : cs = zs.map fun z => Value.string (bs z) := by
  obtain ⟨xs, m, rfl, hx, hl, hn, hel⟩ := DataW.trod_array ht h
  have hxs : xs.map (·.1) = zs.map fun z => (DataW.lit (.string z) : DataW H) := by
    have := congrArg Prod.fst hx
    simp only [strData, DataW.agg.injEq] at this
    exact this.symm
  have hzl : zs.length = n := by
    have := congrArg List.length hxs
    simp at this
    omega
  apply List.ext_getElem?
  intro i
  by_cases hi : i < n
  · have hf := hel i hi
    rw [hce, Nat.mul_one] at hf
    have hb : xs[i]? = some xs[i] := List.getElem?_eq_getElem (by omega)
    rw [hb] at hf
    obtain ⟨s, hc, hs, _⟩ := DataW.trod_string he hf
    have h1 : cs[i]? = some (.string s) := by
      have := congrArg (·[0]?) hc
      simpa [List.getElem?_take, List.getElem?_drop] using this
    have h2 : (xs.map (·.1))[i]? = some (DataW.lit (.string s.data.toList) : DataW H) := by rw [List.getElem?_map, hb, hs]; rfl
    rw [hxs] at h2
    simp only [List.getElem?_map, Option.map_eq_some_iff, DataW.lit.injEq, Lit.string.injEq] at h2
    obtain ⟨z, hz, hz2⟩ := h2
    rw [h1, List.getElem?_map, hz, hz2]
    rfl
  · rw [List.getElem?_eq_none (by omega), List.getElem?_eq_none (by simp; omega)]
theorem strs_of_head {P : Program} {W : World} {name : String} {zs : List (List UInt8)} {rest : List (String × DataW Unit)} {g : Nat} {t e : TypeId} {n : Nat}
    (hg : P.globalNamed name = some g) (hty : (P.globals[g]?).map (·.type) = some t) (ht : P.underlying t = some (.array n e)) (he : P.underlying e = some .string) (hce : P.cellsOf e = 1) (hct : P.cellsOf t = n)
    (h : laidMet P ((name, strData zs) :: rest) W) (i : Nat) (hi : i < zs.length) : W.cell? ⟨g, i, none⟩ = some (.string (bs (zs.getD i []))) := by
  obtain ⟨ps, ⟨g', t', cs, fuel, p, q, hg', ht', hvar, hd, _, _⟩, _⟩ := h
  obtain rfl := Option.some.inj (hg.symm.trans hg')
  obtain rfl := Option.some.inj (hty.symm.trans ht')
  have hcs := cells_of_strs ht he hce hct hd
  have := World.var?_cell hg hvar i
  rw [this, ← Array.getElem?_toList, hcs]
  simp [List.getD, hi]

/-- the list of tables that the rows of conditions bear -/
def laidT : List (String × DataW Unit) := [("unicode/utf8.acceptRanges", Rows.laid_unicode_utf8_acceptRanges), ("turnpike/stamp.weekdays", Rows.laid_turnpike_stamp_weekdays), ("turnpike/stamp.months", Rows.laid_turnpike_stamp_months), ("unicode/utf8.first", Rows.laid_unicode_utf8_first)]
theorem gWeek : Tryd.prog.globalNamed "turnpike/stamp.weekdays" = some 3 := by kernel_rfl
theorem gMonths : Tryd.prog.globalNamed "turnpike/stamp.months" = some 4 := by kernel_rfl
theorem week_type : (Tryd.prog.globals[3]?).map (·.type) = some 125 := by kernel_rfl
theorem months_type : (Tryd.prog.globals[4]?).map (·.type) = some 128 := by kernel_rfl
theorem envS_at {W : World} (hsh : W.ShapedOpen Tryd.prog) (h : laidMet Tryd.prog [("turnpike/stamp.weekdays", Rows.laid_turnpike_stamp_weekdays), ("turnpike/stamp.months", Rows.laid_turnpike_stamp_months), ("unicode/utf8.first", Rows.laid_unicode_utf8_first)] W) : EnvS W where
  n := size_of_shaped hsh
  week := strs_of_head (zs := Stm.longN) (rest := [("turnpike/stamp.months", Rows.laid_turnpike_stamp_months), ("unicode/utf8.first", Rows.laid_unicode_utf8_first)]) gWeek week_type Tryd.underlying125 Tryd.underlying9 (by kernel_rfl) (by kernel_rfl) h
  mon := strs_of_head (zs := Stm.monN) (rest := [("unicode/utf8.first", Rows.laid_unicode_utf8_first)]) gMonths months_type Tryd.underlying128 Tryd.underlying9 (by kernel_rfl) (by kernel_rfl) h.tail
theorem envS_of {W : World} (h : laidMetH Tryd.prog laidT W) (hsh : W.ShapedOpen Tryd.prog) : EnvS W := by
  rw [MakeChecks.laidMetH_plain _ _ _ (by kernel_rfl)] at h
  exact envS_at hsh h.tail

/-- a law that leaves all memory below the call's own as it was, and hands back what it is to -/
theorem post_below {H : Type} {enc : TypeId × Value → H} {P : Program} {f : Func} {s : ChangeSpec} {apart fresh handsOn : Bool} {W W' : World} {args : Array Value} {v : Value} {ds gs : List (DataW H)} {before pa pv : List MemPlace}
    (hW : DataW.Whole enc P f.params.toList s.vars apart W args.toList ds gs before)
    (hres : ∀ (b : Nat) (sp : Nat → Bool) (hd : Bool), DataW.TrodAll enc P W' b sp hd f.resultTypes.toList (v.resultList f.resultTypes.size) (s.fn H (ds ++ gs)).results [])
    (hargs : DataW.TrodAll enc P W' 0 (fun b => decide (b < W.heap.size)) true f.params.toList args.toList (s.fn H (ds ++ gs)).args pa)
    (hvars : DataW.TrodVars enc P W' (fun b => decide (b < W.heap.size)) s.vars (s.fn H (ds ++ gs)).vars pv)
    (hb : Below W.heap.size W W') : s.post enc P f apart fresh handsOn false W args v W' :=
  ⟨ds, gs, before, [], pa, pv, hW, hres _ _ _, hargs, hvars, hb.frame _, fun h => by cases h⟩
theorem int_of_wf {n : Int} (h : (Lit.int .i64 n).wf = true) : -9223372036854775808 ≤ n ∧ n ≤ 9223372036854775807 := by
  simp [Lit.wf, IntKind.min, IntKind.max, IntKind.signed, IntKind.bits] at h
  omega
theorem tag_cells : Tryd.prog.cellsOf 24 = 2 := by kernel_rfl
theorem bool_cells : Tryd.prog.cellsOf 4 = 1 := by kernel_rfl
theorem str_cells : Tryd.prog.cellsOf 9 = 1 := by kernel_rfl
set_option maxRecDepth 100000 in
theorem open_tag {H : Type} {enc : TypeId × Value → H} {W : World} {r : Reach} {b0 base : Nat} {sp : Nat → Bool} {held : Bool} {v : Value} {d : DataW H} {ps : List MemPlace}
    (hval : Value.okWide Tryd.prog W r b0 24 v) (hd : DataW.Trod enc Tryd.prog W base sp held 24 v d ps) :
    ∃ (b : Bool) (X : ByteArray), v = .agg #[.bool b, .string X] ∧ d = .agg [.lit (.bool b), .lit (.string (L X))] ∧ ps = [] := by
  obtain ⟨cs, rfl, hsz⟩ := okWide_struct Tryd.underlying24 hval
  obtain ⟨fuel, hf⟩ := hd
  rw [tag_cells] at hsz
  obtain ⟨y0, y1, n, hx, hl, h0, h1⟩ := trod_struct2 Tryd.underlying24 hf
  obtain ⟨cs⟩ := cs
  match cs, hsz with
  | [u0, u1], _ =>
    simp only [Value.cells, bool_cells, str_cells, List.drop_zero, List.drop_succ_cons, List.take_succ_cons, List.take_zero] at h0 h1
    obtain ⟨a, e0, g0⟩ := DataW.trod_bool Tryd.underlying4 h0
    obtain ⟨X, e1, g1, w1⟩ := DataW.trod_string Tryd.underlying9 h1
    simp at e0 e1
    subst e0; subst e1; subst g0; subst g1
    simp only [Prod.mk.injEq] at hx
    exact ⟨a, X, rfl, hx.1, by simpa using hx.2⟩
end Go.Proofs.YtjalfddedikibaaDoor
