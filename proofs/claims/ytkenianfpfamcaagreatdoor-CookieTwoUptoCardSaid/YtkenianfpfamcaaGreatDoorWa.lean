/- What every claim of this seat needs: a world whose listed tables read as the program lays them; what a world that fits gives the walks. Cookies among a law's arguments: one that a server sets, those that a client sends. A call on a jar among a law's arguments. -/
import Derived.Test.YtkenianfpfamcaaGreatDoorCards
import Derived.Test.YtkenianfpfamcaaGreatDoorTie
import Derived.ProofKit
import Derived.OpenShut
import Derived.Deep.DeepHandedRow
import Derived.Deep.SlicePairs
import Derived.Lib.LaidTab
import Derived.Carry
import Derived.MakeChecks
import Derived.Stop.LaidErr
import Derived.Test.YtkenianfpfamcaaGreatDoorMd
import Derived.Test.YtkenianfpfamcaaGreatDoorJarAJ
import Derived.Test.YtkenianfpfamcaaGreatDoorDa
namespace Go.Proofs.YtkenianfpfamcaaGreatDoor
open Go Go.ChangeShapes Go.ChangeMaps Go.WideShapes Go.ChangeAt Go.RowKit

theorem ownNone : ownKnob Tryz.prog.godebug = none := by kernel_rfl
def litV : DataW Unit → Value
  | .lit (.int k n) => .int k n
  | .lit (.string l) => .string ⟨l.toArray⟩
  | _ => undef
def rowV1 : DataW Unit → List Value
  | .agg l => l.map litV
  | d => [litV d]
def rowV : DataW Unit → List Value
  | .agg l => l.flatMap rowV1
  | _ => []
def putV (cs : List Value) : Obj → Obj
  | .cells _ t frozen => .cells cs.toArray t frozen
  | o => o
/-- the settled world, each listed table as the program's text lays it -/
noncomputable def laidWorld (os : Os) : World :=
  { World.holding Tryz.prog os ⟨#[], #[], []⟩ with heap := ([
    (2, Rows.laid_turnpike_octet_signs),
    (0, Rows.laid_turnpike_stamp_weekdays),
    (1, Rows.laid_turnpike_stamp_months),
    (6, Rows.laid_internal_strconv_uint64pow10),
    (7, Rows.laid_math_bits_deBruijn32tab),
    (8, Rows.laid_math_bits_deBruijn64tab),
    (5, Rows.laid_unicode_utf8_acceptRanges),
    (4, Rows.laid_unicode_utf8_first)] : List (Nat × DataW Unit)).foldl (fun h x => h.modify x.1 (putV (rowV x.2))) (World.holding Tryz.prog os ⟨#[], #[], []⟩).heap }
theorem size_of_shaped {w : World} (h : w.ShapedOpen Tryz.prog) : 9 ≤ w.heap.size := by
  have key : ∀ (g : Nat) (zero : Array Value) (t : TypeId), g < Tryz.prog.globals.size → (((begin Tryz.prog (fun _ _ => 0) default).world).heap[g]?).bind Obj.row? = some (zero, t) → g < w.heap.size := by
    intro g zero t hg hz
    obtain ⟨cs, hc, _⟩ := h.1 g zero t hg hz
    obtain ⟨hlt, _⟩ := Array.getElem?_eq_some_iff.1 hc
    exact hlt
  have hs : ((((begin Tryz.prog (fun _ _ => 0) default).world).heap[9 - 1]?).bind Obj.row?).isSome = true := by kernel_rfl
  obtain ⟨⟨z, t⟩, h5⟩ := Option.isSome_iff_exists.1 hs
  have := key (9 - 1) z t (of_decide_eq_true (by kernel_rfl)) h5
  omega
def strData {H : Type} (zs : List (List UInt8)) : DataW H := .agg (zs.map fun z => .lit (.string z))
theorem cells_of_strs {H : Type} {enc : TypeId × Value → H} {P : Program} {w : World} {base : Nat} {sp : Nat → Bool} {held : Bool} {fuel : Nat} {t e : TypeId} {n : Nat} {cs : List Value} {zs : List (List UInt8)} {p : List MemPlace}
    (ht : P.underlying t = some (.array n e)) (he : P.underlying e = some .string) (hce : P.cellsOf e = 1) (hct : P.cellsOf t = n)
    (h : DataW.trod enc P w base sp held fuel t cs = some (strData zs, p)) : cs = zs.map fun z => Value.string (bs z) := by
  obtain ⟨xs, m, rfl, hx, hl, hn, hel⟩ := DataW.trod_array ht h
  have hxs : xs.map (·.1) = zs.map fun z => (DataW.lit (.string z) : DataW H) := by
    have := congrArg Prod.fst hx
    simp only [strData, DataW.agg.injEq] at this
    exact this.symm
  have hzl : zs.length = n := by
    have := congrArg List.length hxs
    simp at this
    omega
  apply List.ext_getElem?
  intro i
  by_cases hi : i < n
  · have hf := hel i hi
    rw [hce, Nat.mul_one] at hf
    have hb : xs[i]? = some xs[i] := List.getElem?_eq_getElem (by omega)
    rw [hb] at hf
    obtain ⟨s, hc, hs, _⟩ := DataW.trod_string he hf
    have h1 : cs[i]? = some (.string s) := by
      have := congrArg (·[0]?) hc
      simpa [List.getElem?_take, List.getElem?_drop] using this
    have h2 : (xs.map (·.1))[i]? = some (DataW.lit (.string s.data.toList) : DataW H) := by rw [List.getElem?_map, hb, hs]; rfl
    rw [hxs] at h2
    simp only [List.getElem?_map, Option.map_eq_some_iff, DataW.lit.injEq, Lit.string.injEq] at h2
    obtain ⟨z, hz, hz2⟩ := h2
    rw [h1, List.getElem?_map, hz, hz2]
    rfl
  · rw [List.getElem?_eq_none (by omega), List.getElem?_eq_none (by simp; omega)]
theorem strs_of_head {P : Program} {W : World} {name : String} {zs : List (List UInt8)} {rest : List (String × DataW Unit)} {g : Nat} {t e : TypeId} {n : Nat}
    (hg : P.globalNamed name = some g) (hty : (P.globals[g]?).map (·.type) = some t) (ht : P.underlying t = some (.array n e)) (he : P.underlying e = some .string) (hce : P.cellsOf e = 1) (hct : P.cellsOf t = n)
    (h : laidMet P ((name, strData zs) :: rest) W) (i : Nat) (hi : i < zs.length) : W.cell? ⟨g, i, none⟩ = some (.string (bs (zs.getD i []))) := by
  obtain ⟨ps, ⟨g', t', cs, fuel, p, q, hg', ht', hvar, hd, _, _⟩, _⟩ := h
  obtain rfl := Option.some.inj (hg.symm.trans hg')
  obtain rfl := Option.some.inj (hty.symm.trans ht')
  have hcs := cells_of_strs ht he hce hct hd
  have := World.var?_cell hg hvar i
  rw [this, ← Array.getElem?_toList, hcs]
  simp [List.getD, hi]

/-- the list of tables that the rows of conditions bear -/
def laidC : List (String × DataW Unit) := [("math/bits.deBruijn32tab", Rows.laid_math_bits_deBruijn32tab), ("math/bits.deBruijn64tab", Rows.laid_math_bits_deBruijn64tab), ("internal/strconv.uint64pow10", Rows.laid_internal_strconv_uint64pow10), ("unicode/utf8.acceptRanges", Rows.laid_unicode_utf8_acceptRanges), ("turnpike/octet.signs", Rows.laid_turnpike_octet_signs), ("turnpike/stamp.weekdays", Rows.laid_turnpike_stamp_weekdays), ("turnpike/stamp.months", Rows.laid_turnpike_stamp_months), ("unicode/utf8.first", Rows.laid_unicode_utf8_first)]
theorem gSigns : Tryz.prog.globalNamed "turnpike/octet.signs" = some 2 := by kernel_rfl
theorem signs_type : (Tryz.prog.globals[2]?).map (·.type) = some 202 := by kernel_rfl
theorem pow_type : (Tryz.prog.globals[6]?).map (·.type) = some 245 := by kernel_rfl
theorem gWeek : Tryz.prog.globalNamed "turnpike/stamp.weekdays" = some 0 := by kernel_rfl
theorem gMonths : Tryz.prog.globalNamed "turnpike/stamp.months" = some 1 := by kernel_rfl
theorem week_type : (Tryz.prog.globals[0]?).map (·.type) = some 174 := by kernel_rfl
theorem months_type : (Tryz.prog.globals[1]?).map (·.type) = some 175 := by kernel_rfl
def laidC2 : List (String × DataW Unit) := [("turnpike/octet.signs", Rows.laid_turnpike_octet_signs), ("turnpike/stamp.weekdays", Rows.laid_turnpike_stamp_weekdays), ("turnpike/stamp.months", Rows.laid_turnpike_stamp_months), ("unicode/utf8.first", Rows.laid_unicode_utf8_first)]
theorem envT_at {W : World} (hsh : W.ShapedOpen Tryz.prog) (h : laidMet Tryz.prog laidC2 W) : EnvT W := by
  have hs : Lib.TabIs Tryz.prog W "turnpike/octet.signs" .u32 [0, 67071226, 3355443198, 1476395007] :=
    Lib.tabIs_of_head (rest := [("turnpike/stamp.weekdays", Rows.laid_turnpike_stamp_weekdays), ("turnpike/stamp.months", Rows.laid_turnpike_stamp_months), ("unicode/utf8.first", Rows.laid_unicode_utf8_first)]) gSigns signs_type Tryz.underlying202 Tryz.underlying201 (by kernel_rfl) (by kernel_rfl) h
  have hc := fun i (hi : i < 4) => hs.cell gSigns i hi
  exact {
    n := size_of_shaped hsh
    sg := fun j hj => by
      have := hc j hj
      rw [this]
      match j, hj with
      | 0, _ => rfl
      | 1, _ => rfl
      | 2, _ => rfl
      | 3, _ => rfl }
theorem envK_of {W : World} (h : laidMetH Tryz.prog laidC W) (hsh : W.ShapedOpen Tryz.prog) : EnvK W := by
  rw [MakeChecks.laidMetH_plain _ _ _ (by kernel_rfl)] at h
  exact {
    t := envT_at hsh h.tail.tail.tail.tail
    s := {
      n := size_of_shaped hsh
      pow := Lib.tabIs_of_head (rest := ("unicode/utf8.acceptRanges", Rows.laid_unicode_utf8_acceptRanges) :: laidC2) gPow pow_type Tryz.underlying245 Tryz.underlying210 (by kernel_rfl) (by kernel_rfl) h.tail.tail
      week := strs_of_head (zs := Stm.longN) (rest := [("turnpike/stamp.months", Rows.laid_turnpike_stamp_months), ("unicode/utf8.first", Rows.laid_unicode_utf8_first)]) gWeek week_type Tryz.underlying174 Tryz.underlying9 (by kernel_rfl) (by kernel_rfl) h.tail.tail.tail.tail.tail
      mon := strs_of_head (zs := Stm.monN) (rest := [("unicode/utf8.first", Rows.laid_unicode_utf8_first)]) gMonths months_type Tryz.underlying175 Tryz.underlying9 (by kernel_rfl) (by kernel_rfl) h.tail.tail.tail.tail.tail.tail }
    max := Go.Proofs.cell_of_shapedOpen_int (zero := #[.int .i64 0]) (t := 3) hsh (of_decide_eq_true (by kernel_rfl)) (by kernel_rfl) rfl (by kernel_rfl) (by kernel_rfl) Tryz.underlying3 }

/-- a law that leaves all memory below the call's own as it was, and hands back what it is to -/
theorem post_below {H : Type} {enc : TypeId × Value → H} {P : Program} {f : Func} {s : ChangeSpec} {apart fresh handsOn : Bool} {W W' : World} {args : Array Value} {v : Value} {ds gs : List (DataW H)} {before pa pv : List MemPlace}
    (hW : DataW.Whole enc P f.params.toList s.vars apart W args.toList ds gs before)
    (hres : ∀ (b : Nat) (sp : Nat → Bool) (hd : Bool), DataW.TrodAll enc P W' b sp hd f.resultTypes.toList (v.resultList f.resultTypes.size) (s.fn H (ds ++ gs)).results [])
    (hargs : DataW.TrodAll enc P W' 0 (fun b => decide (b < W.heap.size)) true f.params.toList args.toList (s.fn H (ds ++ gs)).args pa)
    (hvars : DataW.TrodVars enc P W' (fun b => decide (b < W.heap.size)) s.vars (s.fn H (ds ++ gs)).vars pv)
    (hb : Below W.heap.size W W') : s.post enc P f apart fresh handsOn false W args v W' :=
  ⟨ds, gs, before, [], pa, pv, hW, hres _ _ _, hargs, hvars, hb.frame _, fun h => by cases h⟩
theorem int_of_wf {n : Int} (h : (Lit.int .i64 n).wf = true) : -9223372036854775808 ≤ n ∧ n ≤ 9223372036854775807 := by
  simp [Lit.wf, IntKind.min, IntKind.max, IntKind.signed, IntKind.bits] at h
  omega
end Go.Proofs.YtkenianfpfamcaaGreatDoor
namespace Go.Proofs.YtkenianfpfamcaaGreatDoor
open Go Go.ChangeShapes Go.ChangeMaps Go.WideShapes Go.ChangeAt Go.RowKit

theorem sc_cells : Tryz.prog.cellsOf 37 = 11 := by kernel_rfl
theorem i_cells : Tryz.prog.cellsOf 3 = 1 := by kernel_rfl
theorem s_cells : Tryz.prog.cellsOf 9 = 1 := by kernel_rfl
theorem b_cells : Tryz.prog.cellsOf 4 = 1 := by kernel_rfl
def datS {H : Type} (c : SetC) : DataW H := .agg [.lit (.string c.name), .lit (.string c.value), .lit (.string c.path), .lit (.string c.domain), .lit (.int .i64 c.maxAge), .lit (.bool c.hasMax), .lit (.int .i64 c.expires), .lit (.bool c.hasExp), .lit (.bool c.secure), .lit (.bool c.http), .lit (.int .i64 c.same)]
structure WfC (c : SetC) : Prop where
  m : (Lit.int .i64 c.maxAge).wf = true
  e : (Lit.int .i64 c.expires).wf = true
  s : (Lit.int .i64 c.same).wf = true
def lenC (c : SetC) : Nat := c.name.length + c.value.length + c.path.length + c.domain.length
theorem fit_of {c : SetC} (h : WfC c) (hl : lenC c ≤ 1073741824) : FitC c := by
  have m := int_of_wf h.m
  have e := int_of_wf h.e
  have s := int_of_wf h.s
  unfold lenC at hl
  exact ⟨by omega, by omega, by omega, by omega, m.1, m.2, e.1, e.2, s.1, s.2⟩
theorem bulkC {H : Type} (c : SetC) : lenC c + 11 ≤ Rows.uptoBulk (datS (H := H) c) := by
  unfold lenC datS
  simp [Rows.uptoBulk, Rows.uptoBulkAll]
  omega
set_option maxRecDepth 100000 in
theorem open_cellsC {H : Type} {enc : TypeId × Value → H} {W : World} {base : Nat} {sp : Nat → Bool} {held : Bool} {fuel : Nat} {l : List Value} {x : DataW H × List MemPlace} (hsz : l.length = 11)
    (hf : DataW.trod enc Tryz.prog W base sp held fuel 37 l = some x) : ∃ c : SetC, l = cellsS c ∧ x = (datS c, []) ∧ WfC c := by
  obtain ⟨xs, n, _, hx, _, hlen, hg⟩ := DataW.trod_struct Tryz.underlying37 hf
  match l, hsz, xs, hlen with
  | [u0, u1, u2, u3, u4, u5, u6, u7, u8, u9, u10], _, [y0, y1, y2, y3, y4, y5, y6, y7, y8, y9, y10], _ =>
    have g0 := hg 0 _ rfl
    have g1 := hg 1 _ rfl
    have g2 := hg 2 _ rfl
    have g3 := hg 3 _ rfl
    have g4 := hg 4 _ rfl
    have g5 := hg 5 _ rfl
    have g6 := hg 6 _ rfl
    have g7 := hg 7 _ rfl
    have g8 := hg 8 _ rfl
    have g9 := hg 9 _ rfl
    have g10 := hg 10 _ rfl
    simp only [List.getElem?_cons_zero, List.getElem?_cons_succ] at g0 g1 g2 g3 g4 g5 g6 g7 g8 g9 g10
    obtain ⟨s0, a0, k0, w0⟩ := DataW.trod_string Tryz.underlying9 g0
    obtain ⟨s1, a1, k1, w1⟩ := DataW.trod_string Tryz.underlying9 g1
    obtain ⟨s2, a2, k2, w2⟩ := DataW.trod_string Tryz.underlying9 g2
    obtain ⟨s3, a3, k3, w3⟩ := DataW.trod_string Tryz.underlying9 g3
    obtain ⟨n4, a4, k4, c4⟩ := DataW.trod_int Tryz.underlying3 g4
    obtain ⟨n5, a5, k5⟩ := DataW.trod_bool Tryz.underlying4 g5
    obtain ⟨n6, a6, k6, c6⟩ := DataW.trod_int Tryz.underlying3 g6
    obtain ⟨n7, a7, k7⟩ := DataW.trod_bool Tryz.underlying4 g7
    obtain ⟨n8, a8, k8⟩ := DataW.trod_bool Tryz.underlying4 g8
    obtain ⟨n9, a9, k9⟩ := DataW.trod_bool Tryz.underlying4 g9
    obtain ⟨n10, a10, k10, c10⟩ := DataW.trod_int Tryz.underlying3 g10
    simp [i_cells, s_cells, b_cells] at a0 a1 a2 a3 a4 a5 a6 a7 a8 a9 a10
    subst a0; subst a1; subst a2; subst a3; subst a4; subst a5; subst a6; subst a7; subst a8; subst a9; subst a10
    subst k0; subst k1; subst k2; subst k3; subst k4; subst k5; subst k6; subst k7; subst k8; subst k9; subst k10
    refine ⟨⟨L s0, L s1, L s2, L s3, n4, n5, n6, n7, n8, n9, n10⟩, ?_, ?_, ⟨c4, c6, c10⟩⟩
    · unfold cellsS
      simp only [bs_L]
    · rw [hx]; rfl
end Go.Proofs.YtkenianfpfamcaaGreatDoor
namespace Go.Proofs.YtkenianfpfamcaaGreatDoor
open Go Go.ChangeShapes Go.ChangeMaps Go.WideShapes Go.ChangeAt Go.RowKit

structure OpC where
  kind : Int
  c : SetC
  host : List UInt8
  path : List UInt8
  secure : Bool
  now : Int
def cellsO (o : OpC) : List Value := .int .i64 o.kind :: (cellsS o.c ++ [.string (bs o.host), .string (bs o.path), .bool o.secure, .int .i64 o.now])
def datO {H : Type} (o : OpC) : DataW H := .agg [.lit (.int .i64 o.kind), datS o.c, .lit (.string o.host), .lit (.string o.path), .lit (.bool o.secure), .lit (.int .i64 o.now)]
structure WfO (o : OpC) : Prop where
  c : WfC o.c
  now : (Lit.int .i64 o.now).wf = true
def lenO (o : OpC) : Nat := lenC o.c + o.host.length + o.path.length
/-- what a call on a jar fulfils -/
structure FitO (o : OpC) : Prop where
  c : FitC o.c
  host : o.host.length ≤ 1073741824
  path : o.path.length ≤ 1073741824
  n0 : -9223372036854775808 ≤ o.now
  n1 : o.now ≤ 9223372036854775807
theorem fit_op {o : OpC} (h : WfO o) (hl : lenO o ≤ 1073741824) : FitO o := by
  have n := int_of_wf h.now
  unfold lenO at hl
  exact ⟨fit_of h.c (by omega), by omega, by omega, n.1, n.2⟩
theorem op_cells : Tryz.prog.cellsOf 61 = 16 := by kernel_rfl
theorem bulkO {H : Type} (o : OpC) : lenO o + 16 ≤ Rows.uptoBulk (datO (H := H) o) := by
  have := bulkC (H := H) o.c
  unfold lenO datO
  simp [Rows.uptoBulk, Rows.uptoBulkAll]
  omega
set_option maxRecDepth 100000 in
theorem open_cellsO {H : Type} {enc : TypeId × Value → H} {W : World} {base : Nat} {sp : Nat → Bool} {held : Bool} {fuel : Nat} {l : List Value} {x : DataW H × List MemPlace} (hsz : l.length = 16)
    (hf : DataW.trod enc Tryz.prog W base sp held fuel 61 l = some x) : ∃ o : OpC, l = cellsO o ∧ x = (datO o, []) ∧ WfO o := by
  obtain ⟨xs, n, _, hx, _, hlen, hg⟩ := DataW.trod_struct Tryz.underlying61 hf
  match l, hsz, xs, hlen with
  | [u0, u1, u2, u3, u4, u5, u6, u7, u8, u9, u10, u11, u12, u13, u14, u15], _, [y0, y1, y2, y3, y4, y5], _ =>
    have g0 := hg 0 _ rfl
    have g1 := hg 1 _ rfl
    have g2 := hg 2 _ rfl
    have g3 := hg 3 _ rfl
    have g4 := hg 4 _ rfl
    have g5 := hg 5 _ rfl
    simp only [List.getElem?_cons_zero, List.getElem?_cons_succ] at g0 g1 g2 g3 g4 g5
    obtain ⟨n0, a0, k0, c0⟩ := DataW.trod_int Tryz.underlying3 g0
    obtain ⟨c, a1, k1, c1⟩ := open_cellsC (by simp [sc_cells]) g1
    obtain ⟨s2, a2, k2, w2⟩ := DataW.trod_string Tryz.underlying9 g2
    obtain ⟨s3, a3, k3, w3⟩ := DataW.trod_string Tryz.underlying9 g3
    obtain ⟨n4, a4, k4⟩ := DataW.trod_bool Tryz.underlying4 g4
    obtain ⟨n5, a5, k5, c5⟩ := DataW.trod_int Tryz.underlying3 g5
    simp [i_cells, s_cells, b_cells, sc_cells] at a0 a1 a2 a3 a4 a5
    subst a0; subst a2; subst a3; subst a4; subst a5
    subst k0; subst k1; subst k2; subst k3; subst k4; subst k5
    refine ⟨⟨n0, c, L s2, L s3, n4, n5⟩, ?_, ?_, ⟨c1, c5⟩⟩
    · unfold cellsO
      simp only [bs_L]
      rw [← a1]
      rfl
    · rw [hx]; rfl
end Go.Proofs.YtkenianfpfamcaaGreatDoor
