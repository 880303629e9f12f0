/- What every claim of this seat needs: a world whose listed tables read as the program lays them; what a world that fits gives the walks. -/
import Derived.Test.YtnodboggemggmaaGreatDoorCards
import Derived.Test.YtnodboggemggmaaGreatDoorTie
import Derived.Test.YtnodboggemggmaaGreatDoorShelf
import Derived.ProofKit
import Derived.OpenShut
import Derived.Deep.DeepHandedRow
import Derived.Lib.LaidTab
import Derived.Test.YtnodboggemggmaaGreatDoorSpanA
namespace Go.Proofs.YtnodboggemggmaaGreatDoor
open Go Go.ChangeShapes Go.WideShapes Go.ChangeAt Go.RowKit

theorem ownNone : ownKnob Tryz.prog.godebug = none := by kernel_rfl

def litV : DataW Unit → Value
  | .lit (.int k n) => .int k n
  | _ => undef
def rowV : DataW Unit → List Value
  | .agg l => l.map litV
  | _ => []
def rowV2 : DataW Unit → List Value
  | .agg l => l.flatMap rowV
  | _ => []
def putV (cs : List Value) : Obj → Obj
  | .cells _ t frozen => .cells cs.toArray t frozen
  | o => o
/-- the settled world, each listed table as the program's text lays it -/
noncomputable def laidWorld (os : Os) : World :=
  { World.holding Tryz.prog os ⟨#[], #[], []⟩ with heap := (((((World.holding Tryz.prog os ⟨#[], #[], []⟩).heap.modify 1 (putV (rowV Rows.laid_internal_strconv_uint64pow10))).modify 2 (putV (rowV Rows.laid_unicode_utf8_first))).modify 3 (putV (rowV2 Rows.laid_unicode_utf8_acceptRanges))).modify 4 (putV (rowV Rows.laid_math_bits_deBruijn32tab))).modify 5 (putV (rowV Rows.laid_math_bits_deBruijn64tab)) }

/-- a cell of the world's variables lies in the heap -/
theorem size_of_shaped {w : World} (h : w.ShapedOpen Tryz.prog) : 6 ≤ w.heap.size := by
  have key : ∀ (g : Nat) (zero : Array Value) (t : TypeId), g < Tryz.prog.globals.size → (((begin Tryz.prog (fun _ _ => 0) default).world).heap[g]?).bind Obj.row? = some (zero, t) → g < w.heap.size := by
    intro g zero t hg hz
    obtain ⟨cs, hc, _⟩ := h.1 g zero t hg hz
    obtain ⟨hlt, _⟩ := Array.getElem?_eq_some_iff.1 hc
    exact hlt
  have hs : ((((begin Tryz.prog (fun _ _ => 0) default).world).heap[5]?).bind Obj.row?).isSome = true := by kernel_rfl
  obtain ⟨⟨z, t⟩, h5⟩ := Option.isSome_iff_exists.1 hs
  exact key 5 z t (of_decide_eq_true (by kernel_rfl)) h5
theorem env_of_shaped {w : World} (h : w.ShapedOpen Tryz.prog) : Env w where
  n := size_of_shaped h
  max := Go.Proofs.cell_of_shapedOpen_int (zero := #[.int .i64 0]) (t := 3) h (of_decide_eq_true (by kernel_rfl)) (by kernel_rfl) rfl (by kernel_rfl) (by kernel_rfl) Tryz.underlying3

/-- a law that leaves all memory below the call's own as it was, and hands back what it is to -/
theorem post_below {H : Type} {enc : TypeId × Value → H} {P : Program} {f : Func} {s : ChangeSpec} {apart fresh handsOn : Bool} {W W' : World} {args : Array Value} {v : Value} {ds gs : List (DataW H)} {before pa pv : List MemPlace}
    (hW : DataW.Whole enc P f.params.toList s.vars apart W args.toList ds gs before)
    (hres : ∀ (b : Nat) (sp : Nat → Bool) (hd : Bool), DataW.TrodAll enc P W' b sp hd f.resultTypes.toList (v.resultList f.resultTypes.size) (s.fn H (ds ++ gs)).results [])
    (hargs : DataW.TrodAll enc P W' 0 (fun b => decide (b < W.heap.size)) true f.params.toList args.toList (s.fn H (ds ++ gs)).args pa)
    (hvars : DataW.TrodVars enc P W' (fun b => decide (b < W.heap.size)) s.vars (s.fn H (ds ++ gs)).vars pv)
    (hb : Below W.heap.size W W') : s.post enc P f apart fresh handsOn false W args v W' :=
  ⟨ds, gs, before, [], pa, pv, hW, hres _ _ _, hargs, hvars, hb.frame _, fun h => by cases h⟩
end Go.Proofs.YtnodboggemggmaaGreatDoor
