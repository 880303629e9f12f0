/- What every claim of this seat needs: a world whose listed tables read as the program lays them; what a world that fits gives the walks. An entry among a law's arguments: what it is, and that it reads as before. A slice of entries among a law's arguments: what it is. A slice of texts among a law's arguments: what it is. -/
import Derived.Test.YtfgaiopkclogmaaGreatDoorCards
import Derived.Test.YtfgaiopkclogmaaGreatDoorTie
import Derived.ProofKit
import Derived.OpenShut
import Derived.Deep.DeepHandedRow
import Derived.Lib.LaidTab
import Derived.Carry
import Derived.MakeChecks
import Derived.Stop.LaidErr
import Derived.Test.YtfgaiopkclogmaaGreatDoorLedgYJ
import Derived.Test.YtfgaiopkclogmaaGreatDoorLedgPaJ
import Derived.Test.YtfgaiopkclogmaaGreatDoorLedgCaJ
import Derived.Deep.Slices
import Derived.Test.YtfgaiopkclogmaaGreatDoorMg
import Derived.SliceStrings
namespace Go.Proofs.YtfgaiopkclogmaaGreatDoor
open Go Go.ChangeShapes Go.WideShapes Go.ChangeAt Go.RowKit

theorem ownNone : ownKnob Tryz.prog.godebug = none := by kernel_rfl
def litV : DataW Unit → Value
  | .lit (.int k n) => .int k n
  | _ => undef
def rowV : DataW Unit → List Value
  | .agg l => l.map litV
  | _ => []
def putV (cs : List Value) : Obj → Obj
  | .cells _ t frozen => .cells cs.toArray t frozen
  | o => o
/-- the settled world, each listed table as the program's text lays it -/
noncomputable def laidWorld (os : Os) : World :=
  { World.holding Tryz.prog os ⟨#[], #[], []⟩ with heap := ((((World.holding Tryz.prog os ⟨#[], #[], []⟩).heap.modify 2 (putV (rowV Rows.laid_internal_strconv_uint64pow10))).modify 1 (putV (rowV Rows.laid_turnpike_octet_signs))).modify 3 (putV (rowV Rows.laid_math_bits_deBruijn32tab))).modify 4 (putV (rowV Rows.laid_math_bits_deBruijn64tab)) }
theorem size_of_shaped {w : World} (h : w.ShapedOpen Tryz.prog) : 5 ≤ w.heap.size := by
  have key : ∀ (g : Nat) (zero : Array Value) (t : TypeId), g < Tryz.prog.globals.size → (((begin Tryz.prog (fun _ _ => 0) default).world).heap[g]?).bind Obj.row? = some (zero, t) → g < w.heap.size := by
    intro g zero t hg hz
    obtain ⟨cs, hc, _⟩ := h.1 g zero t hg hz
    obtain ⟨hlt, _⟩ := Array.getElem?_eq_some_iff.1 hc
    exact hlt
  have hs : ((((begin Tryz.prog (fun _ _ => 0) default).world).heap[4]?).bind Obj.row?).isSome = true := by kernel_rfl
  obtain ⟨⟨z, t⟩, h5⟩ := Option.isSome_iff_exists.1 hs
  exact key 4 z t (of_decide_eq_true (by kernel_rfl)) h5
/-- the list of tables that every row of this seat bears -/
def laidG : List (String × DataW Unit) := [("math/bits.deBruijn32tab", Rows.laid_math_bits_deBruijn32tab), ("math/bits.deBruijn64tab", Rows.laid_math_bits_deBruijn64tab), ("internal/strconv.uint64pow10", Rows.laid_internal_strconv_uint64pow10), ("turnpike/octet.signs", Rows.laid_turnpike_octet_signs)]
theorem gSigns : Tryz.prog.globalNamed "turnpike/octet.signs" = some 1 := by kernel_rfl
theorem pow_type : (Tryz.prog.globals[2]?).map (·.type) = some 197 := by kernel_rfl
theorem signs_type : (Tryz.prog.globals[1]?).map (·.type) = some 181 := by kernel_rfl
theorem envL_of {W : World} (h : laidMetH Tryz.prog laidG W) (hsh : W.ShapedOpen Tryz.prog) : EnvL W := by
  rw [MakeChecks.laidMetH_plain _ _ _ (by kernel_rfl)] at h
  have hs : Lib.TabIs Tryz.prog W "turnpike/octet.signs" .u32 [0, 67071226, 3355443198, 1476395007] :=
    Lib.tabIs_of_head (rest := []) gSigns signs_type Tryz.underlying181 Tryz.underlying82 (by kernel_rfl) (by kernel_rfl) h.tail.tail.tail
  have hc := fun i (hi : i < 4) => hs.cell gSigns i hi
  exact {
    env := {
      n := size_of_shaped hsh
      sg := fun j hj => by
        have := hc j hj
        rw [this]
        match j, hj with
        | 0, _ => rfl
        | 1, _ => rfl
        | 2, _ => rfl
        | 3, _ => rfl }
    pow := Lib.tabIs_of_head (rest := [("turnpike/octet.signs", Rows.laid_turnpike_octet_signs)]) gPowL pow_type Tryz.underlying197 Tryz.underlying170 (by kernel_rfl) (by kernel_rfl) h.tail.tail }
/-- a law that leaves all memory below the call's own as it was, and hands back what it is to -/
theorem post_below {H : Type} {enc : TypeId × Value → H} {P : Program} {f : Func} {s : ChangeSpec} {apart fresh handsOn : Bool} {W W' : World} {args : Array Value} {v : Value} {ds gs : List (DataW H)} {before pa pv : List MemPlace}
    (hW : DataW.Whole enc P f.params.toList s.vars apart W args.toList ds gs before)
    (hres : ∀ (b : Nat) (sp : Nat → Bool) (hd : Bool), DataW.TrodAll enc P W' b sp hd f.resultTypes.toList (v.resultList f.resultTypes.size) (s.fn H (ds ++ gs)).results [])
    (hargs : DataW.TrodAll enc P W' 0 (fun b => decide (b < W.heap.size)) true f.params.toList args.toList (s.fn H (ds ++ gs)).args pa)
    (hvars : DataW.TrodVars enc P W' (fun b => decide (b < W.heap.size)) s.vars (s.fn H (ds ++ gs)).vars pv)
    (hb : Below W.heap.size W W') : s.post enc P f apart fresh handsOn false W args v W' :=
  ⟨ds, gs, before, [], pa, pv, hW, hres _ _ _, hargs, hvars, hb.frame _, fun h => by cases h⟩
theorem int_of_wf {n : Int} (h : (Lit.int .i64 n).wf = true) : -9223372036854775808 ≤ n ∧ n ≤ 9223372036854775807 := by
  simp [Lit.wf, IntKind.min, IntKind.max, IntKind.signed, IntKind.bits] at h
  omega
end Go.Proofs.YtfgaiopkclogmaaGreatDoor
namespace Go.Proofs.YtfgaiopkclogmaaGreatDoor
open Go Go.ChangeShapes Go.ChangeMaps Go.WideShapes Go.ChangeAt Go.RowKit

theorem entry_cells : Tryz.prog.cellsOf 32 = 8 := by kernel_rfl
theorem visit_cells : Tryz.prog.cellsOf 30 = 7 := by kernel_rfl
theorem int_cells : Tryz.prog.cellsOf 3 = 1 := by kernel_rfl
theorem str_cells : Tryz.prog.cellsOf 9 = 1 := by kernel_rfl
def datV {H : Type} (e : En) : DataW H := .agg [.lit (.int .i64 e.conn), .lit (.int .i64 e.numb), .lit (.string e.meth), .lit (.string e.tgt), .lit (.int .i64 e.stat), .lit (.int .i64 e.byts), .lit (.int .i64 e.tick)]
def datE {H : Type} (e : En) : DataW H := .agg [.lit (.string e.name), datV e]
/-- what an entry that came in fulfils -/
structure wfE (e : En) : Prop where
  conn : (Lit.int .i64 e.conn).wf = true
  numb : (Lit.int .i64 e.numb).wf = true
  tick : (Lit.int .i64 e.tick).wf = true
  stat : (Lit.int .i64 e.stat).wf = true
  byts : (Lit.int .i64 e.byts).wf = true
  name : e.name.length ≤ maxLen
  meth : e.meth.length ≤ maxLen
  tgt : e.tgt.length ≤ maxLen
theorem wfE.ints {e : En} (h : wfE e) : intsE e := ⟨int_of_wf h.conn, int_of_wf h.numb, int_of_wf h.tick, int_of_wf h.stat, int_of_wf h.byts⟩
set_option maxRecDepth 100000 in
theorem open_cells {H : Type} {enc : TypeId × Value → H} {W : World} {base : Nat} {sp : Nat → Bool} {held : Bool} {fuel : Nat} {l : List Value} {x : DataW H × List MemPlace} (hsz : l.length = 8)
    (hf : DataW.trod enc Tryz.prog W base sp held fuel 32 l = some x) : ∃ e : En, l = (cellsE e).toList ∧ x = (datE e, []) ∧ wfE e := by
  obtain ⟨xs, n, _, hx, _, hlen, hg⟩ := DataW.trod_struct Tryz.underlying32 hf
  match l, hsz, xs, hlen with
  | [u0, u1, u2, u3, u4, u5, u6, u7], _, [y0, y1], _ =>
    have g0 := hg 0 _ rfl
    have g1 := hg 1 _ rfl
    simp only [List.getElem?_cons_zero, List.getElem?_cons_succ] at g0 g1
    obtain ⟨s0, e0, k0, w0⟩ := DataW.trod_string Tryz.underlying9 g0
    obtain ⟨zs, m, _, hz, _, hlen2, hg2⟩ := DataW.trod_struct Tryz.underlying30 g1
    match zs, hlen2 with
    | [z0, z1, z2, z3, z4, z5, z6], _ =>
      have t0 := hg2 0 _ rfl
      have t1 := hg2 1 _ rfl
      have t2 := hg2 2 _ rfl
      have t3 := hg2 3 _ rfl
      have t4 := hg2 4 _ rfl
      have t5 := hg2 5 _ rfl
      have t6 := hg2 6 _ rfl
      simp only [List.getElem?_cons_zero, List.getElem?_cons_succ] at t0 t1 t2 t3 t4 t5 t6
      obtain ⟨n0, a0, b0, c0⟩ := DataW.trod_int Tryz.underlying3 t0
      obtain ⟨n1, a1, b1, c1⟩ := DataW.trod_int Tryz.underlying3 t1
      obtain ⟨s2, a2, b2, c2⟩ := DataW.trod_string Tryz.underlying9 t2
      obtain ⟨s3, a3, b3, c3⟩ := DataW.trod_string Tryz.underlying9 t3
      obtain ⟨n4, a4, b4, c4⟩ := DataW.trod_int Tryz.underlying3 t4
      obtain ⟨n5, a5, b5, c5⟩ := DataW.trod_int Tryz.underlying3 t5
      obtain ⟨n6, a6, b6, c6⟩ := DataW.trod_int Tryz.underlying3 t6
      simp [int_cells, str_cells, visit_cells] at e0 a0 a1 a2 a3 a4 a5 a6
      subst e0; subst a0; subst a1; subst a2; subst a3; subst a4; subst a5; subst a6
      subst b0; subst b1; subst b2; subst b3; subst b4; subst b5; subst b6
      subst hz k0
      refine ⟨⟨L s0, L s2, L s3, n0, n1, n6, n4, n5⟩, ?_, ?_, ⟨c0, c1, c6, c4, c5, ?_, ?_, ?_⟩⟩
      · unfold cellsE
        simp only [bs_L]
      · rw [hx]; rfl
      · show (L s0).length ≤ _; rw [L_length]; exact w0
      · show (L s2).length ≤ _; rw [L_length]; exact c2
      · show (L s3).length ≤ _; rw [L_length]; exact c3
theorem trod_str_mk {H : Type} {enc : TypeId × Value → H} {W : World} {base : Nat} {sp : Nat → Bool} {held : Bool} {l : List UInt8} (n : Nat) (hl : l.length ≤ maxLen) :
    DataW.trod enc Tryz.prog W base sp held (n + 1) 9 [.string (bs l)] = some (.lit (.string l), []) := by
  have h : (bs l).size ≤ maxLen := by rw [size_bs]; exact hl
  have h2 : (bs l).data.toList = l := L_bs l
  simp [DataW.trod, Tryz.underlying9, h, h2]
set_option maxRecDepth 100000 in
theorem shut_cells {H : Type} {enc : TypeId × Value → H} {W : World} {base : Nat} {sp : Nat → Bool} {held : Bool} {e : En} (h : wfE e) :
    DataW.trod enc Tryz.prog W base sp held 3 32 (cellsE e).toList = some (datE e, []) := by
  have h0 := trod_str_mk (enc := enc) (W := W) (base := base) (sp := sp) (held := held) 1 h.name
  have t0 := trod_int_mk (enc := enc) (P := Tryz.prog) (w := W) (base := base) (spare := sp) (held := held) 0 Tryz.underlying3 h.conn
  have t1 := trod_int_mk (enc := enc) (P := Tryz.prog) (w := W) (base := base) (spare := sp) (held := held) 0 Tryz.underlying3 h.numb
  have t2 := trod_str_mk (enc := enc) (W := W) (base := base) (sp := sp) (held := held) 0 h.meth
  have t3 := trod_str_mk (enc := enc) (W := W) (base := base) (sp := sp) (held := held) 0 h.tgt
  have t4 := trod_int_mk (enc := enc) (P := Tryz.prog) (w := W) (base := base) (spare := sp) (held := held) 0 Tryz.underlying3 h.stat
  have t5 := trod_int_mk (enc := enc) (P := Tryz.prog) (w := W) (base := base) (spare := sp) (held := held) 0 Tryz.underlying3 h.byts
  have t6 := trod_int_mk (enc := enc) (P := Tryz.prog) (w := W) (base := base) (spare := sp) (held := held) 0 Tryz.underlying3 h.tick
  have hv : DataW.trod enc Tryz.prog W base sp held 2 30 [.int .i64 e.conn, .int .i64 e.numb, .string (bs e.meth), .string (bs e.tgt), .int .i64 e.stat, .int .i64 e.byts, .int .i64 e.tick] = some (datV e, []) :=
    trod_struct_mk (enc := enc) (P := Tryz.prog) (w := W) (base := base) (spare := sp) (held := held) (n := 1) (cs := [.int .i64 e.conn, .int .i64 e.numb, .string (bs e.meth), .string (bs e.tgt), .int .i64 e.stat, .int .i64 e.byts, .int .i64 e.tick]) (xs := [(.lit (.int .i64 e.conn), []), (.lit (.int .i64 e.numb), []), (.lit (.string e.meth), []), (.lit (.string e.tgt), []), (.lit (.int .i64 e.stat), []), (.lit (.int .i64 e.byts), []), (.lit (.int .i64 e.tick), [])]) Tryz.underlying30 (by rw [visit_cells]; rfl) (by simp [int_cells, str_cells, t0, t1, t2, t3, t4, t5, t6])
  exact trod_struct_mk (enc := enc) (P := Tryz.prog) (w := W) (base := base) (spare := sp) (held := held) (n := 2) (cs := (cellsE e).toList) (xs := [(.lit (.string e.name), []), (datV e, [])]) Tryz.underlying32 (by rw [entry_cells]; rfl) (by simp [cellsE, str_cells, visit_cells, h0, hv])
set_option maxRecDepth 100000 in
theorem open_entry {H : Type} {enc : TypeId × Value → H} {W : World} {r : Reach} {b0 base : Nat} {sp : Nat → Bool} {held : Bool} {v : Value} {d : DataW H} {ps : List MemPlace}
    (hval : Value.okWide Tryz.prog W r b0 32 v) (hd : DataW.Trod enc Tryz.prog W base sp held 32 v d ps) :
    ∃ e : En, v = encE e ∧ d = datE e ∧ ps = [] ∧ wfE e := by
  obtain ⟨cs, rfl, hsz⟩ := okWide_struct Tryz.underlying32 hval
  obtain ⟨fuel, hf⟩ := hd
  rw [entry_cells] at hsz
  obtain ⟨e, h1, h2, h3⟩ := open_cells (l := cs.toList) (by simpa using hsz) hf
  simp only [Prod.mk.injEq] at h2
  refine ⟨e, ?_, h2.1, h2.2, h3⟩
  unfold encE
  congr 1
  apply Array.ext'
  exact h1
theorem shut_entry {H : Type} {enc : TypeId × Value → H} {W : World} {base : Nat} {sp : Nat → Bool} {held : Bool} {e : En} (h : wfE e) : DataW.Trod enc Tryz.prog W base sp held 32 (encE e) (datE e) [] :=
  ⟨3, shut_cells h⟩
end Go.Proofs.YtfgaiopkclogmaaGreatDoor
namespace Go.Proofs.YtfgaiopkclogmaaGreatDoor
open Go Go.ChangeShapes Go.ChangeMaps Go.WideShapes Go.ChangeAt Go.RowKit

theorem laidOut : laidOutB Tryz.prog = true := by kernel_rfl
theorem bulk_ge {H : Type} (k : Nat) : ∀ (l : List (DataW H)), (∀ d, d ∈ l → k ≤ Rows.uptoBulk d) → k * l.length ≤ Rows.uptoBulkAll l
  | [], _ => by simp [Rows.uptoBulkAll]
  | d :: l, h => by
    have h1 := h d (List.mem_cons_self ..)
    have h2 := bulk_ge k l (fun x hx => h x (List.mem_cons_of_mem _ hx))
    simp only [Rows.uptoBulkAll, List.length_cons, Nat.mul_add]
    omega
theorem bulk_mem {H : Type} : ∀ (l : List (DataW H)) (d : DataW H), d ∈ l → Rows.uptoBulk d ≤ Rows.uptoBulkAll l
  | [], _, h => by cases h
  | x :: l, d, h => by
    simp only [Rows.uptoBulkAll]
    rcases List.mem_cons.1 h with rfl | h
    · omega
    · have := bulk_mem l d h; omega
instance : Inhabited En := ⟨noE⟩
/-- a slice of entries that came in -/
def EnSl (W : World) (v : Value) (l : List En) : Prop := ∃ p cap, v = .slice p l.length cap ∧ ∀ j (h : j < l.length), ∃ b off, p = some ⟨b, off, none⟩ ∧ b < W.heap.size ∧ ∀ i, i < 8 → W.cell? ⟨b, off + j * 8 + i, none⟩ = (cellsE l[j])[i]?
theorem EnSl.next {W W' : World} {v : Value} {l : List En} (h : EnSl W v l) (hb : Below W.heap.size W W') : EnSl W' v l := by
  obtain ⟨p, cap, rfl, hc⟩ := h
  refine ⟨p, cap, rfl, fun j hj => ?_⟩
  obtain ⟨b, off, hp, hlt, hcell⟩ := hc j hj
  exact ⟨b, off, hp, Nat.lt_of_lt_of_le hlt hb.size, fun i hi => (hb.cell (p := ⟨b, off + j * 8 + i, none⟩) hlt).trans (hcell i hi)⟩
theorem bulkE {H : Type} (e : En) : e.name.length + e.meth.length + e.tgt.length + 8 ≤ Rows.uptoBulk (datE (H := H) e) := by
  simp [Rows.uptoBulkAll, Rows.uptoBulk, datE, datV]
  omega
set_option maxRecDepth 100000 in
theorem open_entries_at {H : Type} {enc : TypeId × Value → H} {W : World} {v : Value} {d : DataW H} {ps : List MemPlace} {fuel : Nat} (hf : DataW.trod enc Tryz.prog W 0 (fun _ => true) true fuel 22 [v] = some (d, ps)) :
    ∃ l : List En, EnSl W v l ∧ 8 * l.length + 1 ≤ Rows.uptoBulk d ∧ ∀ e, e ∈ l → wfE e ∧ e.name.length + e.meth.length + e.tgt.length ≤ Rows.uptoBulk d := by
  rcases Go.Deep.open_slice Tryz.underlying22 hf with ⟨e, hx⟩ | ⟨a', len, cap, m, n, D, Pl, e, hb, hl, hm, hmm, hx, hc⟩
  · simp at e
    subst e
    simp only [Prod.mk.injEq] at hx
    refine ⟨[], ⟨none, 0, rfl, fun j hj => by simp at hj⟩, ?_, fun x hx => by cases hx⟩
    rw [hx.1]
    simp [Rows.uptoBulk]
  · simp at e
    subst e
    simp only [Prod.mk.injEq] at hx
    have hlm : len ≤ m := by rw [hmm]; split <;> omega
    have hv : ∀ i, i < len → ∃ e : En, (∀ k, k < 8 → W.cell? (a'.add (i * 8 + k)) = (cellsE e)[k]?) ∧ D i = datE e ∧ wfE e := by
      intro i hi
      obtain ⟨cs', h1, h2⟩ := hc i (by omega)
      rw [entry_cells] at h1
      obtain ⟨_, hlen, hcs⟩ := World.cells?_some h1
      obtain ⟨e, he, hx', hwf⟩ := open_cells hlen h2
      simp only [Prod.mk.injEq] at hx'
      refine ⟨e, fun k hk => ?_, hx'.1, hwf⟩
      rw [← Go.Deep.add_add, hcs k hk, he, Array.getElem?_toList]
    obtain ⟨F, hF⟩ := Go.Deep.choose_lt hv
    obtain ⟨b, off, spot⟩ := a'
    have hbk : ∀ i, i < len → (F i).name.length + (F i).meth.length + (F i).tgt.length + 8 ≤ Rows.uptoBulk (D i) := by
      intro i hi
      rw [(hF i hi).2.1]
      exact bulkE _
    refine ⟨(List.range len).map F, ⟨some ⟨b, off, spot⟩, cap, by simp, fun j hj => ?_⟩, ?_, fun x hx' => ?_⟩
    · simp at hj
      have hcell := (hF j hj).1
      have hsp : spot = none := by
        have h0 : W.cell? ((⟨b, off, spot⟩ : Addr).add (0 * 8 + 0)) = some (.string (bs (F 0).name)) := (hF 0 (by omega)).1 0 (by decide)
        simpa [Addr.add] using World.cell?_spot h0
      subst hsp
      refine ⟨b, off, rfl, ?_, fun i hi => ?_⟩
      · have h0 : W.cell? ((⟨b, off, none⟩ : Addr).add (j * 8 + 0)) = some (.string (bs (F j).name)) := hcell 0 (by decide)
        rw [Addr.add_lit] at h0
        rcases Nat.lt_or_ge b W.heap.size with h | h
        · exact h
        · simp [World.cell?, Array.getElem?_eq_none h] at h0
      · have h0 := hcell i hi
        rw [Addr.add_lit, ← Nat.add_assoc] at h0
        rw [h0]
        simp
    · rw [hx.1]
      simp only [Rows.uptoBulk, List.length_map, List.length_range]
      have := bulk_ge (H := H) 8 ((List.range len).map D) (fun d hd => by
        obtain ⟨i, hi, rfl⟩ := List.mem_map.1 hd
        have := hbk i (List.mem_range.1 hi)
        omega)
      rw [List.length_map, List.length_range] at this
      omega
    · obtain ⟨i, hi, rfl⟩ := List.mem_map.1 hx'
      have hi := List.mem_range.1 hi
      refine ⟨(hF i hi).2.2, ?_⟩
      have h1 := hbk i hi
      have h2 := bulk_mem ((List.range len).map D) (D i) (List.mem_map.2 ⟨i, List.mem_range.2 hi, rfl⟩)
      rw [hx.1]
      simp only [Rows.uptoBulk]
      omega
set_option maxRecDepth 100000 in
theorem open_entries {H : Type} {enc : TypeId × Value → H} {W : World} {r : Reach} {b0 : Nat} {v : Value} {d : DataW H} {ps : List MemPlace} (hval : Value.okWide Tryz.prog W r b0 22 v) (hd : DataW.Trod enc Tryz.prog W 0 (fun _ => true) true 22 v d ps) :
    ∃ l : List En, EnSl W v l ∧ 8 * l.length + 1 ≤ Rows.uptoBulk d ∧ ∀ e, e ∈ l → wfE e ∧ e.name.length + e.meth.length + e.tgt.length ≤ Rows.uptoBulk d := by
  obtain ⟨a, len, cap, rfl⟩ := okWide_slice Tryz.underlying22 hval
  obtain ⟨fuel, hf⟩ := hd
  exact open_entries_at hf
end Go.Proofs.YtfgaiopkclogmaaGreatDoor
namespace Go.Proofs.YtfgaiopkclogmaaGreatDoor
open Go Go.ChangeShapes Go.ChangeMaps Go.WideShapes Go.ChangeAt Go.RowKit

/-- a slice of texts that came in -/
def StSl (W : World) (v : Value) (l : List Tx) : Prop := ∃ p cap, v = .slice p l.length cap ∧ ∀ j (h : j < l.length), ∃ b off, p = some ⟨b, off, none⟩ ∧ b < W.heap.size ∧ W.cell? ⟨b, off + j, none⟩ = some (.string (bs l[j]))
theorem StSl.next {W W' : World} {v : Value} {l : List Tx} (h : StSl W v l) (hb : Below W.heap.size W W') : StSl W' v l := by
  obtain ⟨p, cap, rfl, hc⟩ := h
  refine ⟨p, cap, rfl, fun j hj => ?_⟩
  obtain ⟨b, off, hp, hlt, hcell⟩ := hc j hj
  exact ⟨b, off, hp, Nat.lt_of_lt_of_le hlt hb.size, (hb.cell (p := ⟨b, off + j, none⟩) hlt).trans hcell⟩
def sumT (l : List Tx) : Nat := (l.map List.length).sum
theorem bulk_strs {H : Type} : ∀ ss : List ByteArray, sumT (ss.map L) + ss.length ≤ Rows.uptoBulkAll (strs (H := H) ss)
  | [] => by simp [sumT]
  | s :: ss => by
    have ih := bulk_strs (H := H) ss
    show sumT (L s :: ss.map L) + (ss.length + 1) ≤ Rows.uptoBulkAll (.lit (.string s.data.toList) :: strs ss)
    simp only [Rows.uptoBulkAll, Rows.uptoBulk]
    have : sumT (L s :: ss.map L) = (L s).length + sumT (ss.map L) := by simp [sumT]
    rw [this]
    have h2 : (L s).length = s.data.toList.length := rfl
    omega
set_option maxRecDepth 100000 in
theorem open_texts {H : Type} {enc : TypeId × Value → H} {W : World} {r : Reach} {b0 : Nat} {v : Value} {d : DataW H} {ps : List MemPlace} (hval : Value.okWide Tryz.prog W r b0 43 v) (hd : DataW.Trod enc Tryz.prog W 0 (fun _ => true) true 43 v d ps) :
    ∃ l : List Tx, StSl W v l ∧ sumT l + l.length ≤ Rows.uptoBulk d := by
  obtain ⟨a, len, cap, rfl⟩ := okWide_slice Tryz.underlying43 hval
  obtain ⟨fuel, hf⟩ := hd
  have hf : DataW.trod enc Tryz.prog W 0 (fun _ => true) true fuel 43 [.slice a len cap] = some (d, ps) := hf
  rcases open_strings Tryz.underlying43 Tryz.underlying9 str_cells hf with ⟨e, hx⟩ | ⟨a', len', cap', ss, e, hb, hl, hm, hlen, hx, hc, hw⟩
  · simp at e
    obtain ⟨rfl, rfl, rfl⟩ := e
    exact ⟨[], ⟨none, 0, rfl, fun j hj => by simp at hj⟩, by simp [sumT]⟩
  · simp at e
    obtain ⟨rfl, rfl, rfl⟩ := e
    simp only [Prod.mk.injEq] at hx
    have hle : len ≤ ss.length := by rw [hlen]; split <;> omega
    obtain ⟨b, off, spot⟩ := a'
    have hlt : ((ss.take len).map L).length = len := by rw [List.length_map, List.length_take]; omega
    refine ⟨(ss.take len).map L, ⟨some ⟨b, off, spot⟩, cap, by rw [hlt], fun j hj => ?_⟩, ?_⟩
    · rw [hlt] at hj
      have h0 := hc j (by omega)
      have hsp : spot = none := by
        simpa [Addr.add] using World.cell?_spot (hc 0 (by omega))
      subst hsp
      rw [Addr.add_lit] at h0
      refine ⟨b, off, rfl, ?_, ?_⟩
      · rcases Nat.lt_or_ge b W.heap.size with h | h
        · exact h
        · simp [World.cell?, Array.getElem?_eq_none h] at h0
      · rw [h0]
        have hj2 : j < ss.length := by omega
        simp [List.getD, hj2, bs_L]
    · rw [hx.1]
      have := bulk_strs (H := H) (ss.take len)
      simp only [Rows.uptoBulk, List.length_map]
      omega
end Go.Proofs.YtfgaiopkclogmaaGreatDoor
