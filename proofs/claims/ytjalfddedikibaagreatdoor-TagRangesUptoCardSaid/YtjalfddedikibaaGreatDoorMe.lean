/- What every claim of this seat needs: a world whose listed tables read as the program lays them; what a world that fits gives the walks; a tag among a law's arguments. What was asked, and what a resource is, among a law's arguments. -/
import Derived.Test.YtjalfddedikibaaGreatDoorCards
import Derived.Test.YtjalfddedikibaaGreatDoorTie
import Derived.ProofKit
import Derived.OpenShut
import Derived.Deep.DeepHandedRow
import Derived.Deep.SlicePairs
import Derived.Lib.LaidTab
import Derived.Carry
import Derived.MakeChecks
import Derived.Stop.LaidErr
import Derived.Test.YtjalfddedikibaaGreatDoorMc
import Derived.Test.YtjalfddedikibaaGreatDoorTagFJ
import Derived.Test.YtjalfddedikibaaGreatDoorTagGJ
namespace Go.Proofs.YtjalfddedikibaaGreatDoor
open Go Go.ChangeShapes Go.ChangeMaps Go.WideShapes Go.ChangeAt Go.RowKit

theorem ownNone : ownKnob Tryz.prog.godebug = none := by kernel_rfl
theorem laidOut : laidOutB Tryz.prog = true := by kernel_rfl
def litV : DataW Unit → Value
  | .lit (.int k n) => .int k n
  | .lit (.string l) => .string ⟨l.toArray⟩
  | _ => undef
def rowV1 : DataW Unit → List Value
  | .agg l => l.map litV
  | d => [litV d]
def rowV : DataW Unit → List Value
  | .agg l => l.flatMap rowV1
  | _ => []
def putV (cs : List Value) : Obj → Obj
  | .cells _ t frozen => .cells cs.toArray t frozen
  | o => o
/-- the settled world, each listed table as the program's text lays it -/
noncomputable def laidWorld (os : Os) : World :=
  { World.holding Tryz.prog os ⟨#[], #[], []⟩ with heap := ([
    (0, Rows.laid_turnpike_stamp_weekdays),
    (1, Rows.laid_turnpike_stamp_months),
    (2, Rows.laid_internal_strconv_uint64pow10),
    (6, Rows.laid_math_bits_deBruijn32tab),
    (7, Rows.laid_math_bits_deBruijn64tab),
    (5, Rows.laid_unicode_utf8_acceptRanges),
    (4, Rows.laid_unicode_utf8_first)] : List (Nat × DataW Unit)).foldl (fun h x => h.modify x.1 (putV (rowV x.2))) (World.holding Tryz.prog os ⟨#[], #[], []⟩).heap }
theorem size_of_shaped {w : World} (h : w.ShapedOpen Tryz.prog) : 8 ≤ w.heap.size := by
  have key : ∀ (g : Nat) (zero : Array Value) (t : TypeId), g < Tryz.prog.globals.size → (((begin Tryz.prog (fun _ _ => 0) default).world).heap[g]?).bind Obj.row? = some (zero, t) → g < w.heap.size := by
    intro g zero t hg hz
    obtain ⟨cs, hc, _⟩ := h.1 g zero t hg hz
    obtain ⟨hlt, _⟩ := Array.getElem?_eq_some_iff.1 hc
    exact hlt
  have hs : ((((begin Tryz.prog (fun _ _ => 0) default).world).heap[8 - 1]?).bind Obj.row?).isSome = true := by kernel_rfl
  obtain ⟨⟨z, t⟩, h5⟩ := Option.isSome_iff_exists.1 hs
  have := key (8 - 1) z t (of_decide_eq_true (by kernel_rfl)) h5
  omega
def strData {H : Type} (zs : List (List UInt8)) : DataW H := .agg (zs.map fun z => .lit (.string z))
theorem cells_of_strs {H : Type} {enc : TypeId × Value → H} {P : Program} {w : World} {base : Nat} {sp : Nat → Bool} {held : Bool} {fuel : Nat} {t e : TypeId} {n : Nat} {cs : List Value} {zs : List (List UInt8)} {p : List MemPlace}
    (ht : P.underlying t = some (.array n e)) (he : P.underlying e = some .string) (hce : P.cellsOf e = 1) (hct : P.cellsOf t = n)
    (h : DataW.trod enc P w base sp held fuel t cs = some (strData zs, p)) : cs = zs.map fun z => Value.string (bs z) := by
  obtain ⟨xs, m, rfl, hx, hl, hn, hel⟩ := DataW.trod_array ht h
  have hxs : xs.map (·.1) = zs.map fun z => (DataW.lit (.string z) : DataW H) := by
    have := congrArg Prod.fst hx
    simp only [strData, DataW.agg.injEq] at this
    exact this.symm
  have hzl : zs.length = n := by
    have := congrArg List.length hxs
    simp at this
    omega
  apply List.ext_getElem?
  intro i
  by_cases hi : i < n
  · have hf := hel i hi
    rw [hce, Nat.mul_one] at hf
    have hb : xs[i]? = some xs[i] := List.getElem?_eq_getElem (by omega)
    rw [hb] at hf
    obtain ⟨s, hc, hs, _⟩ := DataW.trod_string he hf
    have h1 : cs[i]? = some (.string s) := by
      have := congrArg (·[0]?) hc
      simpa [List.getElem?_take, List.getElem?_drop] using this
    have h2 : (xs.map (·.1))[i]? = some (DataW.lit (.string s.data.toList) : DataW H) := by rw [List.getElem?_map, hb, hs]; rfl
    rw [hxs] at h2
    simp only [List.getElem?_map, Option.map_eq_some_iff, DataW.lit.injEq, Lit.string.injEq] at h2
    obtain ⟨z, hz, hz2⟩ := h2
    rw [h1, List.getElem?_map, hz, hz2]
    rfl
  · rw [List.getElem?_eq_none (by omega), List.getElem?_eq_none (by simp; omega)]
theorem strs_of_head {P : Program} {W : World} {name : String} {zs : List (List UInt8)} {rest : List (String × DataW Unit)} {g : Nat} {t e : TypeId} {n : Nat}
    (hg : P.globalNamed name = some g) (hty : (P.globals[g]?).map (·.type) = some t) (ht : P.underlying t = some (.array n e)) (he : P.underlying e = some .string) (hce : P.cellsOf e = 1) (hct : P.cellsOf t = n)
    (h : laidMet P ((name, strData zs) :: rest) W) (i : Nat) (hi : i < zs.length) : W.cell? ⟨g, i, none⟩ = some (.string (bs (zs.getD i []))) := by
  obtain ⟨ps, ⟨g', t', cs, fuel, p, q, hg', ht', hvar, hd, _, _⟩, _⟩ := h
  obtain rfl := Option.some.inj (hg.symm.trans hg')
  obtain rfl := Option.some.inj (hty.symm.trans ht')
  have hcs := cells_of_strs ht he hce hct hd
  have := World.var?_cell hg hvar i
  rw [this, ← Array.getElem?_toList, hcs]
  simp [List.getD, hi]

/-- the list of tables that the rows of conditions bear -/
def laidT : List (String × DataW Unit) := [("unicode/utf8.acceptRanges", Rows.laid_unicode_utf8_acceptRanges), ("turnpike/stamp.weekdays", Rows.laid_turnpike_stamp_weekdays), ("turnpike/stamp.months", Rows.laid_turnpike_stamp_months), ("unicode/utf8.first", Rows.laid_unicode_utf8_first)]
theorem gWeek : Tryz.prog.globalNamed "turnpike/stamp.weekdays" = some 0 := by kernel_rfl
theorem gMonths : Tryz.prog.globalNamed "turnpike/stamp.months" = some 1 := by kernel_rfl
theorem week_type : (Tryz.prog.globals[0]?).map (·.type) = some 150 := by kernel_rfl
theorem months_type : (Tryz.prog.globals[1]?).map (·.type) = some 153 := by kernel_rfl
theorem envS_at {W : World} (hsh : W.ShapedOpen Tryz.prog) (h : laidMet Tryz.prog [("turnpike/stamp.weekdays", Rows.laid_turnpike_stamp_weekdays), ("turnpike/stamp.months", Rows.laid_turnpike_stamp_months), ("unicode/utf8.first", Rows.laid_unicode_utf8_first)] W) : EnvS W where
  n := size_of_shaped hsh
  week := strs_of_head (zs := Stm.longN) (rest := [("turnpike/stamp.months", Rows.laid_turnpike_stamp_months), ("unicode/utf8.first", Rows.laid_unicode_utf8_first)]) gWeek week_type Tryz.underlying150 Tryz.underlying9 (by kernel_rfl) (by kernel_rfl) h
  mon := strs_of_head (zs := Stm.monN) (rest := [("unicode/utf8.first", Rows.laid_unicode_utf8_first)]) gMonths months_type Tryz.underlying153 Tryz.underlying9 (by kernel_rfl) (by kernel_rfl) h.tail
theorem envS_of {W : World} (h : laidMetH Tryz.prog laidT W) (hsh : W.ShapedOpen Tryz.prog) : EnvS W := by
  rw [MakeChecks.laidMetH_plain _ _ _ (by kernel_rfl)] at h
  exact envS_at hsh h.tail

/-- a law that leaves all memory below the call's own as it was, and hands back what it is to -/
theorem post_below {H : Type} {enc : TypeId × Value → H} {P : Program} {f : Func} {s : ChangeSpec} {apart fresh handsOn : Bool} {W W' : World} {args : Array Value} {v : Value} {ds gs : List (DataW H)} {before pa pv : List MemPlace}
    (hW : DataW.Whole enc P f.params.toList s.vars apart W args.toList ds gs before)
    (hres : ∀ (b : Nat) (sp : Nat → Bool) (hd : Bool), DataW.TrodAll enc P W' b sp hd f.resultTypes.toList (v.resultList f.resultTypes.size) (s.fn H (ds ++ gs)).results [])
    (hargs : DataW.TrodAll enc P W' 0 (fun b => decide (b < W.heap.size)) true f.params.toList args.toList (s.fn H (ds ++ gs)).args pa)
    (hvars : DataW.TrodVars enc P W' (fun b => decide (b < W.heap.size)) s.vars (s.fn H (ds ++ gs)).vars pv)
    (hb : Below W.heap.size W W') : s.post enc P f apart fresh handsOn false W args v W' :=
  ⟨ds, gs, before, [], pa, pv, hW, hres _ _ _, hargs, hvars, hb.frame _, fun h => by cases h⟩
theorem int_of_wf {n : Int} (h : (Lit.int .i64 n).wf = true) : -9223372036854775808 ≤ n ∧ n ≤ 9223372036854775807 := by
  simp [Lit.wf, IntKind.min, IntKind.max, IntKind.signed, IntKind.bits] at h
  omega
theorem tag_cells : Tryz.prog.cellsOf 26 = 2 := by kernel_rfl
theorem bool_cells : Tryz.prog.cellsOf 4 = 1 := by kernel_rfl
theorem str_cells : Tryz.prog.cellsOf 9 = 1 := by kernel_rfl
set_option maxRecDepth 100000 in
theorem open_tag {H : Type} {enc : TypeId × Value → H} {W : World} {r : Reach} {b0 base : Nat} {sp : Nat → Bool} {held : Bool} {v : Value} {d : DataW H} {ps : List MemPlace}
    (hval : Value.okWide Tryz.prog W r b0 26 v) (hd : DataW.Trod enc Tryz.prog W base sp held 26 v d ps) :
    ∃ (b : Bool) (X : ByteArray), v = .agg #[.bool b, .string X] ∧ d = .agg [.lit (.bool b), .lit (.string (L X))] ∧ ps = [] := by
  obtain ⟨cs, rfl, hsz⟩ := okWide_struct Tryz.underlying26 hval
  obtain ⟨fuel, hf⟩ := hd
  rw [tag_cells] at hsz
  obtain ⟨y0, y1, n, hx, hl, h0, h1⟩ := trod_struct2 Tryz.underlying26 hf
  obtain ⟨cs⟩ := cs
  match cs, hsz with
  | [u0, u1], _ =>
    simp only [Value.cells, bool_cells, str_cells, List.drop_zero, List.drop_succ_cons, List.take_succ_cons, List.take_zero] at h0 h1
    obtain ⟨a, e0, g0⟩ := DataW.trod_bool Tryz.underlying4 h0
    obtain ⟨X, e1, g1, w1⟩ := DataW.trod_string Tryz.underlying9 h1
    simp at e0 e1
    subst e0; subst e1; subst g0; subst g1
    simp only [Prod.mk.injEq] at hx
    exact ⟨a, X, rfl, hx.1, by simpa using hx.2⟩
end Go.Proofs.YtjalfddedikibaaGreatDoor
namespace Go.Proofs.YtjalfddedikibaaGreatDoor
open Go Go.ChangeShapes Go.ChangeMaps Go.WideShapes Go.ChangeAt Go.RowKit

theorem field_cells : Tryz.prog.cellsOf 31 = 2 := by kernel_rfl
theorem fields_cells : Tryz.prog.cellsOf 22 = 1 := by kernel_rfl
theorem asked_cells : Tryz.prog.cellsOf 24 = 3 := by kernel_rfl
theorem state_cells : Tryz.prog.cellsOf 28 = 6 := by kernel_rfl
theorem int_cells : Tryz.prog.cellsOf 3 = 1 := by kernel_rfl
def txV (v : Value) : Tx := match v with | .string s => L s | _ => []
theorem bulk_fields {H : Type} (D : Nat → DataW H) (F : Nat → Fd) : ∀ (is : List Nat), (∀ i, i ∈ is → (F i).1.length + (F i).2.length + 2 ≤ Rows.uptoBulk (D i)) → fSum (is.map F) ≤ Rows.uptoBulkAll (is.map D)
  | [], _ => by simp [fSum]
  | i :: is, h => by
    have h1 := h i (List.mem_cons_self ..)
    have h2 := bulk_fields D F is (fun x hx => h x (List.mem_cons_of_mem _ hx))
    unfold fSum at h2 ⊢
    simp only [Rows.uptoBulkAll, List.map_cons, List.sum_cons]
    omega
set_option maxRecDepth 100000 in
theorem open_fields_at {H : Type} {enc : TypeId × Value → H} {W : World} {v : Value} {d : DataW H} {ps : List MemPlace} {fuel : Nat} (hf : DataW.trod enc Tryz.prog W 0 (fun _ => true) true fuel 22 [v] = some (d, ps)) :
    ∃ l : List Fd, FdSl W v l ∧ fSum l + 1 ≤ Rows.uptoBulk d := by
  rcases Go.Deep.open_slice_pairs Tryz.underlying22 Tryz.underlying31 field_cells rfl rfl str_cells str_cells hf with ⟨e, hx⟩ | ⟨a', len, cap, m, n, V0, V1, D0, D1, P0, P1, e, hb, hl, hm, hmm, hx, hc⟩
  · simp at e
    subst e
    simp only [Prod.mk.injEq] at hx
    refine ⟨[], ⟨none, 0, rfl, fun j hj => by simp at hj⟩, ?_⟩
    rw [hx.1]
    simp [Rows.uptoBulk, fSum]
  · simp at e
    subst e
    simp only [Prod.mk.injEq] at hx
    have hlm : len ≤ m := by rw [hmm]; split <;> omega
    have hv : ∀ i, i < len → V0 i = .string (bs (txV (V0 i))) ∧ V1 i = .string (bs (txV (V1 i))) ∧ (D0 i = .lit (.string (txV (V0 i)))) ∧ (D1 i = .lit (.string (txV (V1 i)))) := by
      intro i hi
      obtain ⟨_, _, h0, h1⟩ := hc i (by omega)
      obtain ⟨p, q0, q1, q2⟩ := DataW.trod_string Tryz.underlying9 h0
      obtain ⟨p', q0', q1', q2'⟩ := DataW.trod_string Tryz.underlying9 h1
      simp at q0 q0'
      simp only [Prod.mk.injEq] at q1 q1'
      have i1 : txV (V0 i) = L p := by rw [q0]; rfl
      have i2 : txV (V1 i) = L p' := by rw [q0']; rfl
      rw [i1, i2, bs_L, bs_L]
      exact ⟨q0, q0', q1.1, q1'.1⟩
    obtain ⟨b, off, spot⟩ := a'
    refine ⟨(List.range len).map fun i => (txV (V0 i), txV (V1 i)), ⟨some ⟨b, off, spot⟩, cap, by simp, fun j hj => ?_⟩, ?_⟩
    · simp at hj
      obtain ⟨h0, h1, _, _⟩ := hc j (by omega)
      have hsp : spot = none := by
        have := (hc 0 (by omega)).1
        simpa [Addr.add] using World.cell?_spot this
      subst hsp
      rw [Addr.add_lit] at h0 h1
      refine ⟨b, off, rfl, ?_, ?_, ?_⟩
      · rcases Nat.lt_or_ge b W.heap.size with h | h
        · exact h
        · simp [World.cell?, Array.getElem?_eq_none h] at h0
      · rw [h0, (hv j hj).1]; simp [txV]
      · rw [Nat.add_assoc, h1, (hv j hj).2.1]; simp [txV]
    · rw [hx.1]
      simp only [Rows.uptoBulk]
      have := bulk_fields (H := H) (fun i => .agg [D0 i, D1 i]) (fun i => (txV (V0 i), txV (V1 i))) (List.range len) (fun i hi => by
        obtain ⟨_, _, g0, g1⟩ := hv i (List.mem_range.1 hi)
        rw [g0, g1]
        simp [Rows.uptoBulk, Rows.uptoBulkAll]; omega)
      omega
set_option maxRecDepth 100000 in
theorem open_asked {H : Type} {enc : TypeId × Value → H} {W : World} {r : Reach} {b0 : Nat} {v : Value} {d : DataW H} {ps : List MemPlace} (hval : Value.okWide Tryz.prog W r b0 24 v) (hd : DataW.Trod enc Tryz.prog W 0 (fun _ => true) true 24 v d ps) :
    ∃ (M : ByteArray) (va : Value) (l : List Fd) (now : Int), v = .agg #[.string M, va, .int .i64 now] ∧ FdSl W va l ∧ M.size + fSum l ≤ Rows.uptoBulk d ∧ (-9223372036854775808 ≤ now ∧ now ≤ 9223372036854775807) := by
  obtain ⟨cs, rfl, hsz⟩ := okWide_struct Tryz.underlying24 hval
  obtain ⟨fuel, hf⟩ := hd
  rw [asked_cells] at hsz
  obtain ⟨xs, n, _, hx, _, hlen, hg⟩ := DataW.trod_struct Tryz.underlying24 hf
  obtain ⟨l⟩ := cs
  match l, hsz, xs, hlen with
  | [u0, u1, u2], _, [y0, y1, y2], _ =>
    have g0 := hg 0 _ rfl
    have g1 := hg 1 _ rfl
    have g2 := hg 2 _ rfl
    simp only [Value.cells, List.getElem?_cons_zero, List.getElem?_cons_succ] at g0 g1 g2
    obtain ⟨n0, e0, k0, w0⟩ := DataW.trod_string Tryz.underlying9 g0
    obtain ⟨n2, e2, k2, w2⟩ := DataW.trod_int Tryz.underlying3 g2
    simp [str_cells, int_cells] at e0 e2
    simp [fields_cells] at g1
    obtain ⟨sl, q1, q2⟩ := open_fields_at (d := y1.1) (ps := y1.2) g1
    subst e0; subst e2
    subst k0; subst k2
    simp only [Prod.mk.injEq] at hx
    refine ⟨n0, u1, sl, n2, rfl, q1, ?_, int_of_wf w2⟩
    rw [hx.1]
    simp [Rows.uptoBulk, Rows.uptoBulkAll]
    have z0 : n0.data.toList.length = n0.size := L_length n0
    simp only [Array.length_toList] at z0
    omega
set_option maxRecDepth 100000 in
theorem open_state {H : Type} {enc : TypeId × Value → H} {W : World} {r : Reach} {b0 : Nat} {v : Value} {d : DataW H} {ps : List MemPlace} (hval : Value.okWide Tryz.prog W r b0 28 v) (hd : DataW.Trod enc Tryz.prog W 0 (fun _ => true) true 28 v d ps) :
    ∃ s : Sta, v = encSt s ∧ (s.tag.2.length ≤ Rows.uptoBulk d) ∧ (-9223372036854775808 ≤ s.time ∧ s.time ≤ 9223372036854775807) := by
  obtain ⟨cs, rfl, hsz⟩ := okWide_struct Tryz.underlying28 hval
  obtain ⟨fuel, hf⟩ := hd
  rw [state_cells] at hsz
  obtain ⟨xs, n, _, hx, _, hlen, hg⟩ := DataW.trod_struct Tryz.underlying28 hf
  obtain ⟨l⟩ := cs
  match l, hsz, xs, hlen with
  | [u0, u1, u2, u3, u4, u5], _, [y0, y1, y2, y3, y4], _ =>
    have g0 := hg 0 _ rfl
    have g1 := hg 1 _ rfl
    have g2 := hg 2 _ rfl
    have g3 := hg 3 _ rfl
    have g4 := hg 4 _ rfl
    simp only [Value.cells, List.getElem?_cons_zero, List.getElem?_cons_succ] at g0 g1 g2 g3 g4
    obtain ⟨n0, e0, k0⟩ := DataW.trod_bool Tryz.underlying4 g0
    obtain ⟨z0, z1, n1, hz, _, h0, h1⟩ := trod_struct2 Tryz.underlying26 g1
    obtain ⟨a, e1, k1⟩ := DataW.trod_bool Tryz.underlying4 h0
    obtain ⟨X, e2, k2, _⟩ := DataW.trod_string Tryz.underlying9 h1
    obtain ⟨n2, e3, k3⟩ := DataW.trod_bool Tryz.underlying4 g2
    obtain ⟨n3, e4, k4, w4⟩ := DataW.trod_int Tryz.underlying3 g3
    obtain ⟨n4, e5, k5⟩ := DataW.trod_bool Tryz.underlying4 g4
    simp [bool_cells, tag_cells, int_cells, str_cells] at e0 e1 e2 e3 e4 e5
    subst e0; subst e1; subst e2; subst e3; subst e4; subst e5
    subst k0; subst k1; subst k2; subst k3; subst k4; subst k5
    subst hz
    simp only [Prod.mk.injEq] at hx
    refine ⟨⟨n0, (a, L X), n2, n3, n4⟩, rfl, ?_, int_of_wf w4⟩
    rw [hx.1]
    simp [Rows.uptoBulk, Rows.uptoBulkAll]
    show (L X).length ≤ _
    have z0 : X.data.toList.length = X.size := L_length X
    simp only [Array.length_toList] at z0
    rw [L_length]
    omega
end Go.Proofs.YtjalfddedikibaaGreatDoor
