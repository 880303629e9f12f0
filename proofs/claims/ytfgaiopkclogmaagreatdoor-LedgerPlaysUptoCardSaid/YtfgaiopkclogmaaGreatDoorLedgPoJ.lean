/- A slice of calls among a law's arguments: what it is. -/
import Derived.Test.YtfgaiopkclogmaaGreatDoorMj
import Derived.Test.YtfgaiopkclogmaaGreatDoorLedgPlJ
namespace Go.Proofs.YtfgaiopkclogmaaGreatDoor
open Go Go.ChangeShapes Go.ChangeMaps Go.WideShapes Go.ChangeAt Go.RowKit

theorem op_cells : Tryz.prog.cellsOf tO = 15 := by kernel_rfl
theorem filter_cells : Tryz.prog.cellsOf 40 = 5 := by kernel_rfl
def datF {H : Type} (f : Fi) : DataW H := .agg [.lit (.string f.name), .lit (.string f.meth), .lit (.string f.path), .lit (.int .i64 f.least), .lit (.int .i64 f.most)]
def datO {H : Type} (o : Opn) : DataW H := .agg [.lit (.int .i64 o.kind), datE o.e, .lit (.int .i64 o.n), datF o.f]
structure wfO (o : Opn) : Prop where
  kind : (Lit.int .i64 o.kind).wf = true
  e : wfE o.e
instance : Inhabited Fi := ⟨⟨[], [], [], 0, 0⟩⟩
instance : Inhabited Opn := ⟨⟨0, noE, 0, ⟨[], [], [], 0, 0⟩⟩⟩
theorem bulkO {H : Type} (o : Opn) : o.e.name.length + o.e.meth.length + o.e.tgt.length + o.f.path.length + 15 ≤ Rows.uptoBulk (datO (H := H) o) := by
  simp [Rows.uptoBulkAll, Rows.uptoBulk, datO, datE, datV, datF]
  omega
set_option maxRecDepth 100000 in
theorem open_opcells {H : Type} {enc : TypeId × Value → H} {W : World} {base : Nat} {sp : Nat → Bool} {held : Bool} {fuel : Nat} {l : List Value} {x : DataW H × List MemPlace} (hsz : l.length = 15)
    (hf : DataW.trod enc Tryz.prog W base sp held fuel tO l = some x) : ∃ o : Opn, l = (cellsO o).toList ∧ x = (datO o, []) ∧ wfO o := by
  obtain ⟨xs, n, _, hx, _, hlen, hg⟩ := DataW.trod_struct Tryz.underlying73 hf
  match l, hsz, xs, hlen with
  | [u0, u1, u2, u3, u4, u5, u6, u7, u8, u9, u10, u11, u12, u13, u14], _, [y0, y1, y2, y3], _ =>
    have g0 := hg 0 _ rfl
    have g1 := hg 1 _ rfl
    have g2 := hg 2 _ rfl
    have g3 := hg 3 _ rfl
    simp only [List.getElem?_cons_zero, List.getElem?_cons_succ] at g0 g1 g2 g3
    obtain ⟨n0, e0, k0, w0⟩ := DataW.trod_int Tryz.underlying3 g0
    obtain ⟨n2, e2, k2, w2⟩ := DataW.trod_int Tryz.underlying3 g2
    obtain ⟨en, e1, k1, w1⟩ := open_cells (by simp [int_cells, entry_cells]) g1
    obtain ⟨zs, m, _, hz, _, hlen2, hg2⟩ := DataW.trod_struct Tryz.underlying40 g3
    match zs, hlen2 with
    | [z0, z1, z2, z3, z4], _ =>
      have t0 := hg2 0 _ rfl
      have t1 := hg2 1 _ rfl
      have t2 := hg2 2 _ rfl
      have t3 := hg2 3 _ rfl
      have t4 := hg2 4 _ rfl
      simp only [List.getElem?_cons_zero, List.getElem?_cons_succ] at t0 t1 t2 t3 t4
      obtain ⟨s0, a0, b0, c0⟩ := DataW.trod_string Tryz.underlying9 t0
      obtain ⟨s1, a1, b1, c1⟩ := DataW.trod_string Tryz.underlying9 t1
      obtain ⟨s2, a2, b2, c2⟩ := DataW.trod_string Tryz.underlying9 t2
      obtain ⟨n3, a3, b3, c3⟩ := DataW.trod_int Tryz.underlying3 t3
      obtain ⟨n4, a4, b4, c4⟩ := DataW.trod_int Tryz.underlying3 t4
      simp [int_cells, str_cells, entry_cells, filter_cells, cellsE] at e0 e1 e2 a0 a1 a2 a3 a4
      obtain ⟨f0, f1, f2, f3, f4, f5, f6, f7⟩ := e1
      subst e0; subst e2; subst a0; subst a1; subst a2; subst a3; subst a4
      subst f0; subst f1; subst f2; subst f3; subst f4; subst f5; subst f6; subst f7
      subst b0; subst b1; subst b2; subst b3; subst b4
      subst k0 k1 k2
      subst hz
      refine ⟨⟨n0, en, n2, ⟨L s0, L s1, L s2, n3, n4⟩⟩, ?_, ?_, ⟨w0, w1⟩⟩
      · unfold cellsO
        simp only [bs_L]
      · rw [hx]; rfl
set_option maxRecDepth 100000 in
theorem open_ops_at {H : Type} {enc : TypeId × Value → H} {W : World} {v : Value} {d : DataW H} {ps : List MemPlace} {fuel : Nat} (hf : DataW.trod enc Tryz.prog W 0 (fun _ => true) true fuel 71 [v] = some (d, ps)) :
    ∃ l : List Opn, OpSl W v l ∧ 15 * l.length + 1 ≤ Rows.uptoBulk d ∧ ∀ o, o ∈ l → wfO o ∧ o.e.name.length + o.e.meth.length + o.e.tgt.length + o.f.path.length ≤ Rows.uptoBulk d := by
  rcases Go.Deep.open_slice Tryz.underlying71 hf with ⟨e, hx⟩ | ⟨a', len, cap, m, n, D, Pl, e, hb, hl, hm, hmm, hx, hc⟩
  · simp at e
    subst e
    simp only [Prod.mk.injEq] at hx
    refine ⟨[], ⟨none, 0, rfl, fun j hj => by simp at hj⟩, ?_, fun x hx => by cases hx⟩
    rw [hx.1]
    simp [Rows.uptoBulk]
  · simp at e
    subst e
    simp only [Prod.mk.injEq] at hx
    have hlm : len ≤ m := by rw [hmm]; split <;> omega
    have hv : ∀ i, i < len → ∃ e : Opn, (∀ k, k < 15 → W.cell? (a'.add (i * 15 + k)) = (cellsO e)[k]?) ∧ D i = datO e ∧ wfO e := by
      intro i hi
      obtain ⟨cs', h1, h2⟩ := hc i (by omega)
      rw [op_cells] at h1
      obtain ⟨_, hlen, hcs⟩ := World.cells?_some h1
      obtain ⟨e, he, hx', hwf⟩ := open_opcells hlen h2
      simp only [Prod.mk.injEq] at hx'
      refine ⟨e, fun k hk => ?_, hx'.1, hwf⟩
      rw [← Go.Deep.add_add, hcs k hk, he, Array.getElem?_toList]
    obtain ⟨F, hF⟩ := Go.Deep.choose_lt hv
    obtain ⟨b, off, spot⟩ := a'
    have hbk : ∀ i, i < len → (F i).e.name.length + (F i).e.meth.length + (F i).e.tgt.length + (F i).f.path.length + 15 ≤ Rows.uptoBulk (D i) := by
      intro i hi
      rw [(hF i hi).2.1]
      exact bulkO _
    refine ⟨(List.range len).map F, ⟨some ⟨b, off, spot⟩, cap, by simp, fun j hj => ?_⟩, ?_, fun x hx' => ?_⟩
    · simp at hj
      have hcell := (hF j hj).1
      have hsp : spot = none := by
        have h0 : W.cell? ((⟨b, off, spot⟩ : Addr).add (0 * 15 + 0)) = some (.int .i64 (F 0).kind) := (hF 0 (by omega)).1 0 (by decide)
        simpa [Addr.add] using World.cell?_spot h0
      subst hsp
      refine ⟨b, off, rfl, ?_, fun i hi => ?_⟩
      · have h0 : W.cell? ((⟨b, off, none⟩ : Addr).add (j * 15 + 0)) = some (.int .i64 (F j).kind) := hcell 0 (by decide)
        rw [Addr.add_lit] at h0
        rcases Nat.lt_or_ge b W.heap.size with h | h
        · exact h
        · simp [World.cell?, Array.getElem?_eq_none h] at h0
      · have h0 := hcell i hi
        rw [Addr.add_lit, ← Nat.add_assoc] at h0
        rw [h0]
        simp
    · rw [hx.1]
      simp only [Rows.uptoBulk, List.length_map, List.length_range]
      have := bulk_ge (H := H) 15 ((List.range len).map D) (fun d hd => by
        obtain ⟨i, hi, rfl⟩ := List.mem_map.1 hd
        have := hbk i (List.mem_range.1 hi)
        omega)
      rw [List.length_map, List.length_range] at this
      omega
    · obtain ⟨i, hi, rfl⟩ := List.mem_map.1 hx'
      have hi := List.mem_range.1 hi
      refine ⟨(hF i hi).2.2, ?_⟩
      have h1 := hbk i hi
      have h2 := bulk_mem ((List.range len).map D) (D i) (List.mem_map.2 ⟨i, List.mem_range.2 hi, rfl⟩)
      rw [hx.1]
      simp only [Rows.uptoBulk]
      omega
set_option maxRecDepth 100000 in
theorem open_ops {H : Type} {enc : TypeId × Value → H} {W : World} {r : Reach} {b0 : Nat} {v : Value} {d : DataW H} {ps : List MemPlace} (hval : Value.okWide Tryz.prog W r b0 71 v) (hd : DataW.Trod enc Tryz.prog W 0 (fun _ => true) true 71 v d ps) :
    ∃ l : List Opn, OpSl W v l ∧ 15 * l.length + 1 ≤ Rows.uptoBulk d ∧ ∀ o, o ∈ l → wfO o ∧ o.e.name.length + o.e.meth.length + o.e.tgt.length + o.f.path.length ≤ Rows.uptoBulk d := by
  obtain ⟨a, len, cap, rfl⟩ := okWide_slice Tryz.underlying71 hval
  obtain ⟨fuel, hf⟩ := hd
  exact open_ops_at hf
theorem inO_one {o : Opn} {B : Nat} (hw : wfO o) (hb : o.e.name.length + o.e.meth.length + o.e.tgt.length + o.f.path.length ≤ B) (hB : B ≤ 1048576) : inO o where
  e := ⟨hw.e.ints, by omega, by omega, by omega⟩
  k0 := (int_of_wf hw.kind).1
  k1 := (int_of_wf hw.kind).2
  path := by omega
theorem inO_of {l : List Opn} {B : Nat} (h : ∀ o, o ∈ l → wfO o ∧ o.e.name.length + o.e.meth.length + o.e.tgt.length + o.f.path.length ≤ B) (hB : B ≤ 1048576) : ∀ o ∈ l, inO o :=
  fun o ho => inO_one (h o ho).1 (h o ho).2 hB
end Go.Proofs.YtfgaiopkclogmaaGreatDoor
