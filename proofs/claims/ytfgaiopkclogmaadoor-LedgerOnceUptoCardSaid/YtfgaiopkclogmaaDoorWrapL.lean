/- What every claim of this seat needs: a world whose listed tables read as the program lays them; what a world that fits gives the walks. -/
import Derived.Test.YtfgaiopkclogmaaDoorCards
import Derived.Test.YtfgaiopkclogmaaDoorTie
import Derived.ProofKit
import Derived.OpenShut
import Derived.Deep.DeepHandedRow
import Derived.Lib.LaidTab
import Derived.Carry
import Derived.MakeChecks
import Derived.Stop.LaidErr
import Derived.Test.YtfgaiopkclogmaaDoorLedgY
namespace Go.Proofs.YtfgaiopkclogmaaDoor
open Go Go.ChangeShapes Go.WideShapes Go.ChangeAt Go.RowKit

theorem ownNone : ownKnob Tryd.prog.godebug = none := by kernel_rfl
def litV : DataW Unit → Value
  | .lit (.int k n) => .int k n
  | _ => undef
def rowV : DataW Unit → List Value
  | .agg l => l.map litV
  | _ => []
def putV (cs : List Value) : Obj → Obj
  | .cells _ t frozen => .cells cs.toArray t frozen
  | o => o
/-- the settled world, each listed table as the program's text lays it -/
noncomputable def laidWorld (os : Os) : World :=
  { World.holding Tryd.prog os ⟨#[], #[], []⟩ with heap := ((((World.holding Tryd.prog os ⟨#[], #[], []⟩).heap.modify 2 (putV (rowV Rows.laid_internal_strconv_uint64pow10))).modify 0 (putV (rowV Rows.laid_turnpike_octet_signs))).modify 3 (putV (rowV Rows.laid_math_bits_deBruijn32tab))).modify 4 (putV (rowV Rows.laid_math_bits_deBruijn64tab)) }
theorem size_of_shaped {w : World} (h : w.ShapedOpen Tryd.prog) : 5 ≤ w.heap.size := by
  have key : ∀ (g : Nat) (zero : Array Value) (t : TypeId), g < Tryd.prog.globals.size → (((begin Tryd.prog (fun _ _ => 0) default).world).heap[g]?).bind Obj.row? = some (zero, t) → g < w.heap.size := by
    intro g zero t hg hz
    obtain ⟨cs, hc, _⟩ := h.1 g zero t hg hz
    obtain ⟨hlt, _⟩ := Array.getElem?_eq_some_iff.1 hc
    exact hlt
  have hs : ((((begin Tryd.prog (fun _ _ => 0) default).world).heap[4]?).bind Obj.row?).isSome = true := by kernel_rfl
  obtain ⟨⟨z, t⟩, h5⟩ := Option.isSome_iff_exists.1 hs
  exact key 4 z t (of_decide_eq_true (by kernel_rfl)) h5
/-- the list of tables that every row of this seat bears -/
def laidG : List (String × DataW Unit) := [("math/bits.deBruijn32tab", Rows.laid_math_bits_deBruijn32tab), ("math/bits.deBruijn64tab", Rows.laid_math_bits_deBruijn64tab), ("internal/strconv.uint64pow10", Rows.laid_internal_strconv_uint64pow10), ("turnpike/octet.signs", Rows.laid_turnpike_octet_signs)]
theorem gSigns : Tryd.prog.globalNamed "turnpike/octet.signs" = some 0 := by kernel_rfl
theorem pow_type : (Tryd.prog.globals[2]?).map (·.type) = some 124 := by kernel_rfl
theorem signs_type : (Tryd.prog.globals[0]?).map (·.type) = some 111 := by kernel_rfl
theorem envL_of {W : World} (h : laidMetH Tryd.prog laidG W) (hsh : W.ShapedOpen Tryd.prog) : EnvL W := by
  rw [MakeChecks.laidMetH_plain _ _ _ (by kernel_rfl)] at h
  have hs : Lib.TabIs Tryd.prog W "turnpike/octet.signs" .u32 [0, 67071226, 3355443198, 1476395007] :=
    Lib.tabIs_of_head (rest := []) gSigns signs_type Tryd.underlying111 Tryd.underlying79 (by kernel_rfl) (by kernel_rfl) h.tail.tail.tail
  have hc := fun i (hi : i < 4) => hs.cell gSigns i hi
  exact {
    env := {
      n := size_of_shaped hsh
      sg := fun j hj => by
        have := hc j hj
        rw [this]
        match j, hj with
        | 0, _ => rfl
        | 1, _ => rfl
        | 2, _ => rfl
        | 3, _ => rfl }
    pow := Lib.tabIs_of_head (rest := [("turnpike/octet.signs", Rows.laid_turnpike_octet_signs)]) gPowL pow_type Tryd.underlying124 Tryd.underlying113 (by kernel_rfl) (by kernel_rfl) h.tail.tail }
/-- a law that leaves all memory below the call's own as it was, and hands back what it is to -/
theorem post_below {H : Type} {enc : TypeId × Value → H} {P : Program} {f : Func} {s : ChangeSpec} {apart fresh handsOn : Bool} {W W' : World} {args : Array Value} {v : Value} {ds gs : List (DataW H)} {before pa pv : List MemPlace}
    (hW : DataW.Whole enc P f.params.toList s.vars apart W args.toList ds gs before)
    (hres : ∀ (b : Nat) (sp : Nat → Bool) (hd : Bool), DataW.TrodAll enc P W' b sp hd f.resultTypes.toList (v.resultList f.resultTypes.size) (s.fn H (ds ++ gs)).results [])
    (hargs : DataW.TrodAll enc P W' 0 (fun b => decide (b < W.heap.size)) true f.params.toList args.toList (s.fn H (ds ++ gs)).args pa)
    (hvars : DataW.TrodVars enc P W' (fun b => decide (b < W.heap.size)) s.vars (s.fn H (ds ++ gs)).vars pv)
    (hb : Below W.heap.size W W') : s.post enc P f apart fresh handsOn false W args v W' :=
  ⟨ds, gs, before, [], pa, pv, hW, hres _ _ _, hargs, hvars, hb.frame _, fun h => by cases h⟩
theorem int_of_wf {n : Int} (h : (Lit.int .i64 n).wf = true) : -9223372036854775808 ≤ n ∧ n ≤ 9223372036854775807 := by
  simp [Lit.wf, IntKind.min, IntKind.max, IntKind.signed, IntKind.bits] at h
  omega
end Go.Proofs.YtfgaiopkclogmaaDoor
