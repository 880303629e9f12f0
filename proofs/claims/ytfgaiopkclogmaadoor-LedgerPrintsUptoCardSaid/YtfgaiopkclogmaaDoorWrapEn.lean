/- An entry among a law's arguments: what it is, and that it reads as before. -/
import Derived.Test.YtfgaiopkclogmaaDoorWrapL
import Derived.Test.YtfgaiopkclogmaaDoorLedgPa
namespace Go.Proofs.YtfgaiopkclogmaaDoor
open Go Go.ChangeShapes Go.ChangeMaps Go.WideShapes Go.ChangeAt Go.RowKit

theorem entry_cells : Tryd.prog.cellsOf 25 = 8 := by kernel_rfl
theorem visit_cells : Tryd.prog.cellsOf 23 = 7 := by kernel_rfl
theorem int_cells : Tryd.prog.cellsOf 3 = 1 := by kernel_rfl
theorem str_cells : Tryd.prog.cellsOf 9 = 1 := by kernel_rfl
def datV {H : Type} (e : En) : DataW H := .agg [.lit (.int .i64 e.conn), .lit (.int .i64 e.numb), .lit (.string e.meth), .lit (.string e.tgt), .lit (.int .i64 e.stat), .lit (.int .i64 e.byts), .lit (.int .i64 e.tick)]
def datE {H : Type} (e : En) : DataW H := .agg [.lit (.string e.name), datV e]
/-- what an entry that came in fulfils -/
structure wfE (e : En) : Prop where
  conn : (Lit.int .i64 e.conn).wf = true
  numb : (Lit.int .i64 e.numb).wf = true
  tick : (Lit.int .i64 e.tick).wf = true
  stat : (Lit.int .i64 e.stat).wf = true
  byts : (Lit.int .i64 e.byts).wf = true
  name : e.name.length ≤ maxLen
  meth : e.meth.length ≤ maxLen
  tgt : e.tgt.length ≤ maxLen
theorem wfE.ints {e : En} (h : wfE e) : intsE e := ⟨int_of_wf h.conn, int_of_wf h.numb, int_of_wf h.tick, int_of_wf h.stat, int_of_wf h.byts⟩
set_option maxRecDepth 100000 in
theorem open_cells {H : Type} {enc : TypeId × Value → H} {W : World} {base : Nat} {sp : Nat → Bool} {held : Bool} {fuel : Nat} {l : List Value} {x : DataW H × List MemPlace} (hsz : l.length = 8)
    (hf : DataW.trod enc Tryd.prog W base sp held fuel 25 l = some x) : ∃ e : En, l = (cellsE e).toList ∧ x = (datE e, []) ∧ wfE e := by
  obtain ⟨xs, n, _, hx, _, hlen, hg⟩ := DataW.trod_struct Tryd.underlying25 hf
  match l, hsz, xs, hlen with
  | [u0, u1, u2, u3, u4, u5, u6, u7], _, [y0, y1], _ =>
    have g0 := hg 0 _ rfl
    have g1 := hg 1 _ rfl
    simp only [List.getElem?_cons_zero, List.getElem?_cons_succ] at g0 g1
    obtain ⟨s0, e0, k0, w0⟩ := DataW.trod_string Tryd.underlying9 g0
    obtain ⟨zs, m, _, hz, _, hlen2, hg2⟩ := DataW.trod_struct Tryd.underlying23 g1
    match zs, hlen2 with
    | [z0, z1, z2, z3, z4, z5, z6], _ =>
      have t0 := hg2 0 _ rfl
      have t1 := hg2 1 _ rfl
      have t2 := hg2 2 _ rfl
      have t3 := hg2 3 _ rfl
      have t4 := hg2 4 _ rfl
      have t5 := hg2 5 _ rfl
      have t6 := hg2 6 _ rfl
      simp only [List.getElem?_cons_zero, List.getElem?_cons_succ] at t0 t1 t2 t3 t4 t5 t6
      obtain ⟨n0, a0, b0, c0⟩ := DataW.trod_int Tryd.underlying3 t0
      obtain ⟨n1, a1, b1, c1⟩ := DataW.trod_int Tryd.underlying3 t1
      obtain ⟨s2, a2, b2, c2⟩ := DataW.trod_string Tryd.underlying9 t2
      obtain ⟨s3, a3, b3, c3⟩ := DataW.trod_string Tryd.underlying9 t3
      obtain ⟨n4, a4, b4, c4⟩ := DataW.trod_int Tryd.underlying3 t4
      obtain ⟨n5, a5, b5, c5⟩ := DataW.trod_int Tryd.underlying3 t5
      obtain ⟨n6, a6, b6, c6⟩ := DataW.trod_int Tryd.underlying3 t6
      simp [int_cells, str_cells, visit_cells] at e0 a0 a1 a2 a3 a4 a5 a6
      subst e0; subst a0; subst a1; subst a2; subst a3; subst a4; subst a5; subst a6
      subst b0; subst b1; subst b2; subst b3; subst b4; subst b5; subst b6
      subst hz k0
      refine ⟨⟨L s0, L s2, L s3, n0, n1, n6, n4, n5⟩, ?_, ?_, ⟨c0, c1, c6, c4, c5, ?_, ?_, ?_⟩⟩
      · unfold cellsE
        simp only [bs_L]
      · rw [hx]; rfl
      · show (L s0).length ≤ _; rw [L_length]; exact w0
      · show (L s2).length ≤ _; rw [L_length]; exact c2
      · show (L s3).length ≤ _; rw [L_length]; exact c3
theorem trod_str_mk {H : Type} {enc : TypeId × Value → H} {W : World} {base : Nat} {sp : Nat → Bool} {held : Bool} {l : List UInt8} (n : Nat) (hl : l.length ≤ maxLen) :
    DataW.trod enc Tryd.prog W base sp held (n + 1) 9 [.string (bs l)] = some (.lit (.string l), []) := by
  have h : (bs l).size ≤ maxLen := by rw [size_bs]; exact hl
  have h2 : (bs l).data.toList = l := L_bs l
  simp [DataW.trod, Tryd.underlying9, h, h2]
set_option maxRecDepth 100000 in
theorem shut_cells {H : Type} {enc : TypeId × Value → H} {W : World} {base : Nat} {sp : Nat → Bool} {held : Bool} {e : En} (h : wfE e) :
    DataW.trod enc Tryd.prog W base sp held 3 25 (cellsE e).toList = some (datE e, []) := by
  have h0 := trod_str_mk (enc := enc) (W := W) (base := base) (sp := sp) (held := held) 1 h.name
  have t0 := trod_int_mk (enc := enc) (P := Tryd.prog) (w := W) (base := base) (spare := sp) (held := held) 0 Tryd.underlying3 h.conn
  have t1 := trod_int_mk (enc := enc) (P := Tryd.prog) (w := W) (base := base) (spare := sp) (held := held) 0 Tryd.underlying3 h.numb
  have t2 := trod_str_mk (enc := enc) (W := W) (base := base) (sp := sp) (held := held) 0 h.meth
  have t3 := trod_str_mk (enc := enc) (W := W) (base := base) (sp := sp) (held := held) 0 h.tgt
  have t4 := trod_int_mk (enc := enc) (P := Tryd.prog) (w := W) (base := base) (spare := sp) (held := held) 0 Tryd.underlying3 h.stat
  have t5 := trod_int_mk (enc := enc) (P := Tryd.prog) (w := W) (base := base) (spare := sp) (held := held) 0 Tryd.underlying3 h.byts
  have t6 := trod_int_mk (enc := enc) (P := Tryd.prog) (w := W) (base := base) (spare := sp) (held := held) 0 Tryd.underlying3 h.tick
  have hv : DataW.trod enc Tryd.prog W base sp held 2 23 [.int .i64 e.conn, .int .i64 e.numb, .string (bs e.meth), .string (bs e.tgt), .int .i64 e.stat, .int .i64 e.byts, .int .i64 e.tick] = some (datV e, []) :=
    trod_struct_mk (enc := enc) (P := Tryd.prog) (w := W) (base := base) (spare := sp) (held := held) (n := 1) (cs := [.int .i64 e.conn, .int .i64 e.numb, .string (bs e.meth), .string (bs e.tgt), .int .i64 e.stat, .int .i64 e.byts, .int .i64 e.tick]) (xs := [(.lit (.int .i64 e.conn), []), (.lit (.int .i64 e.numb), []), (.lit (.string e.meth), []), (.lit (.string e.tgt), []), (.lit (.int .i64 e.stat), []), (.lit (.int .i64 e.byts), []), (.lit (.int .i64 e.tick), [])]) Tryd.underlying23 (by rw [visit_cells]; rfl) (by simp [int_cells, str_cells, t0, t1, t2, t3, t4, t5, t6])
  exact trod_struct_mk (enc := enc) (P := Tryd.prog) (w := W) (base := base) (spare := sp) (held := held) (n := 2) (cs := (cellsE e).toList) (xs := [(.lit (.string e.name), []), (datV e, [])]) Tryd.underlying25 (by rw [entry_cells]; rfl) (by simp [cellsE, str_cells, visit_cells, h0, hv])
set_option maxRecDepth 100000 in
theorem open_entry {H : Type} {enc : TypeId × Value → H} {W : World} {r : Reach} {b0 base : Nat} {sp : Nat → Bool} {held : Bool} {v : Value} {d : DataW H} {ps : List MemPlace}
    (hval : Value.okWide Tryd.prog W r b0 25 v) (hd : DataW.Trod enc Tryd.prog W base sp held 25 v d ps) :
    ∃ e : En, v = encE e ∧ d = datE e ∧ ps = [] ∧ wfE e := by
  obtain ⟨cs, rfl, hsz⟩ := okWide_struct Tryd.underlying25 hval
  obtain ⟨fuel, hf⟩ := hd
  rw [entry_cells] at hsz
  obtain ⟨e, h1, h2, h3⟩ := open_cells (l := cs.toList) (by simpa using hsz) hf
  simp only [Prod.mk.injEq] at h2
  refine ⟨e, ?_, h2.1, h2.2, h3⟩
  unfold encE
  congr 1
  apply Array.ext'
  exact h1
theorem shut_entry {H : Type} {enc : TypeId × Value → H} {W : World} {base : Nat} {sp : Nat → Bool} {held : Bool} {e : En} (h : wfE e) : DataW.Trod enc Tryd.prog W base sp held 25 (encE e) (datE e) [] :=
  ⟨3, shut_cells h⟩
end Go.Proofs.YtfgaiopkclogmaaDoor
