/- A call on a jar among a law's arguments. -/
import Derived.Test.YtkenianfpfamcaaGreatDoorWrapDJ
namespace Go.Proofs.YtkenianfpfamcaaGreatDoor
open Go Go.ChangeShapes Go.ChangeMaps Go.WideShapes Go.ChangeAt Go.RowKit

structure OpC where
  kind : Int
  c : SetC
  host : List UInt8
  path : List UInt8
  secure : Bool
  now : Int
def cellsO (o : OpC) : List Value := .int .i64 o.kind :: (cellsS o.c ++ [.string (bs o.host), .string (bs o.path), .bool o.secure, .int .i64 o.now])
def datO {H : Type} (o : OpC) : DataW H := .agg [.lit (.int .i64 o.kind), datS o.c, .lit (.string o.host), .lit (.string o.path), .lit (.bool o.secure), .lit (.int .i64 o.now)]
structure WfO (o : OpC) : Prop where
  c : WfC o.c
  now : (Lit.int .i64 o.now).wf = true
def lenO (o : OpC) : Nat := lenC o.c + o.host.length + o.path.length
/-- what a call on a jar fulfils -/
structure FitO (o : OpC) : Prop where
  c : FitC o.c
  host : o.host.length ≤ 1073741824
  path : o.path.length ≤ 1073741824
  n0 : -9223372036854775808 ≤ o.now
  n1 : o.now ≤ 9223372036854775807
theorem fit_op {o : OpC} (h : WfO o) (hl : lenO o ≤ 1073741824) : FitO o := by
  have n := int_of_wf h.now
  unfold lenO at hl
  exact ⟨fit_of h.c (by omega), by omega, by omega, n.1, n.2⟩
theorem op_cells : Tryz.prog.cellsOf 61 = 16 := by kernel_rfl
theorem bulkO {H : Type} (o : OpC) : lenO o + 16 ≤ Rows.uptoBulk (datO (H := H) o) := by
  have := bulkC (H := H) o.c
  unfold lenO datO
  simp [Rows.uptoBulk, Rows.uptoBulkAll]
  omega
set_option maxRecDepth 100000 in
theorem open_cellsO {H : Type} {enc : TypeId × Value → H} {W : World} {base : Nat} {sp : Nat → Bool} {held : Bool} {fuel : Nat} {l : List Value} {x : DataW H × List MemPlace} (hsz : l.length = 16)
    (hf : DataW.trod enc Tryz.prog W base sp held fuel 61 l = some x) : ∃ o : OpC, l = cellsO o ∧ x = (datO o, []) ∧ WfO o := by
  obtain ⟨xs, n, _, hx, _, hlen, hg⟩ := DataW.trod_struct Tryz.underlying61 hf
  match l, hsz, xs, hlen with
  | [u0, u1, u2, u3, u4, u5, u6, u7, u8, u9, u10, u11, u12, u13, u14, u15], _, [y0, y1, y2, y3, y4, y5], _ =>
    have g0 := hg 0 _ rfl
    have g1 := hg 1 _ rfl
    have g2 := hg 2 _ rfl
    have g3 := hg 3 _ rfl
    have g4 := hg 4 _ rfl
    have g5 := hg 5 _ rfl
    simp only [List.getElem?_cons_zero, List.getElem?_cons_succ] at g0 g1 g2 g3 g4 g5
    obtain ⟨n0, a0, k0, c0⟩ := DataW.trod_int Tryz.underlying3 g0
    obtain ⟨c, a1, k1, c1⟩ := open_cellsC (by simp [sc_cells]) g1
    obtain ⟨s2, a2, k2, w2⟩ := DataW.trod_string Tryz.underlying9 g2
    obtain ⟨s3, a3, k3, w3⟩ := DataW.trod_string Tryz.underlying9 g3
    obtain ⟨n4, a4, k4⟩ := DataW.trod_bool Tryz.underlying4 g4
    obtain ⟨n5, a5, k5, c5⟩ := DataW.trod_int Tryz.underlying3 g5
    simp [i_cells, s_cells, b_cells, sc_cells] at a0 a1 a2 a3 a4 a5
    subst a0; subst a2; subst a3; subst a4; subst a5
    subst k0; subst k1; subst k2; subst k3; subst k4; subst k5
    refine ⟨⟨n0, c, L s2, L s3, n4, n5⟩, ?_, ?_, ⟨c1, c5⟩⟩
    · unfold cellsO
      simp only [bs_L]
      rw [← a1]
      rfl
    · rw [hx]; rfl
set_option maxRecDepth 100000 in
theorem open_op {H : Type} {enc : TypeId × Value → H} {W : World} {r : Reach} {b0 base : Nat} {sp : Nat → Bool} {held : Bool} {v : Value} {d : DataW H} {ps : List MemPlace}
    (hval : Value.okWide Tryz.prog W r b0 61 v) (hd : DataW.Trod enc Tryz.prog W base sp held 61 v d ps) :
    ∃ o : OpC, v = .agg (cellsO o).toArray ∧ ps = [] ∧ WfO o ∧ lenO o + 16 ≤ Rows.uptoBulk d := by
  obtain ⟨cs, rfl, hsz⟩ := okWide_struct Tryz.underlying61 hval
  obtain ⟨fuel, hf⟩ := hd
  rw [op_cells] at hsz
  obtain ⟨o, h1, h2, h3⟩ := open_cellsO (l := cs.toList) (by simpa using hsz) hf
  simp only [Prod.mk.injEq] at h2
  refine ⟨o, ?_, h2.2, h3, ?_⟩
  · congr 1
    apply Array.ext'
    exact h1
  · rw [h2.1]; exact bulkO o
end Go.Proofs.YtkenianfpfamcaaGreatDoor
