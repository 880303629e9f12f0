/- A date among a law's arguments: what it is, and that it reads as before. -/
import Derived.Test.YtmfnofpphnlbnaaDoorStampK
namespace Go.Proofs.YtmfnofpphnlbnaaDoor
open Go Go.ChangeShapes Go.ChangeMaps Go.WideShapes Go.ChangeAt Go.RowKit

theorem date_cells : Tryd.prog.cellsOf 32 = 7 := by kernel_rfl
theorem int_cells : Tryd.prog.cellsOf 3 = 1 := by kernel_rfl
set_option maxRecDepth 100000 in
theorem open_date {H : Type} {enc : TypeId × Value → H} {W : World} {r : Reach} {b0 base : Nat} {sp : Nat → Bool} {held : Bool} {v : Value} {d : DataW H} {ps : List MemPlace}
    (hval : Value.okWide Tryd.prog W r b0 32 v) (hd : DataW.Trod enc Tryd.prog W base sp held 32 v d ps) :
    ∃ n0 n1 n2 n3 n4 n5 n6 : Int, v = .agg #[.int .i64 n0, .int .i64 n1, .int .i64 n2, .int .i64 n3, .int .i64 n4, .int .i64 n5, .int .i64 n6] ∧ d = .agg [.lit (.int .i64 n0), .lit (.int .i64 n1), .lit (.int .i64 n2), .lit (.int .i64 n3), .lit (.int .i64 n4), .lit (.int .i64 n5), .lit (.int .i64 n6)] ∧ ps = [] ∧
      (Lit.int .i64 n0).wf = true ∧ (Lit.int .i64 n1).wf = true ∧ (Lit.int .i64 n2).wf = true ∧ (Lit.int .i64 n3).wf = true ∧ (Lit.int .i64 n4).wf = true ∧ (Lit.int .i64 n5).wf = true ∧ (Lit.int .i64 n6).wf = true := by
  obtain ⟨cs, rfl, hsz⟩ := okWide_struct Tryd.underlying32 hval
  obtain ⟨fuel, hf⟩ := hd
  rw [date_cells] at hsz
  obtain ⟨xs, n, _, hx, _, hlen, hg⟩ := DataW.trod_struct Tryd.underlying32 hf
  obtain ⟨l⟩ := cs
  match l, hsz, xs, hlen with
  | [u0, u1, u2, u3, u4, u5, u6], _, [y0, y1, y2, y3, y4, y5, y6], _ =>
    have g0 := hg 0 _ rfl
    have g1 := hg 1 _ rfl
    have g2 := hg 2 _ rfl
    have g3 := hg 3 _ rfl
    have g4 := hg 4 _ rfl
    have g5 := hg 5 _ rfl
    have g6 := hg 6 _ rfl
    simp only [Value.cells, List.getElem?_cons_zero, List.getElem?_cons_succ] at g0 g1 g2 g3 g4 g5 g6
    obtain ⟨n0, e0, k0, w0⟩ := DataW.trod_int Tryd.underlying3 g0
    obtain ⟨n1, e1, k1, w1⟩ := DataW.trod_int Tryd.underlying3 g1
    obtain ⟨n2, e2, k2, w2⟩ := DataW.trod_int Tryd.underlying3 g2
    obtain ⟨n3, e3, k3, w3⟩ := DataW.trod_int Tryd.underlying3 g3
    obtain ⟨n4, e4, k4, w4⟩ := DataW.trod_int Tryd.underlying3 g4
    obtain ⟨n5, e5, k5, w5⟩ := DataW.trod_int Tryd.underlying3 g5
    obtain ⟨n6, e6, k6, w6⟩ := DataW.trod_int Tryd.underlying3 g6
    simp [int_cells] at e0 e1 e2 e3 e4 e5 e6
    subst e0; subst e1; subst e2; subst e3; subst e4; subst e5; subst e6
    subst k0; subst k1; subst k2; subst k3; subst k4; subst k5; subst k6
    simp only [Prod.mk.injEq] at hx
    exact ⟨n0, n1, n2, n3, n4, n5, n6, rfl, by simpa using hx.1, by simpa using hx.2, w0, w1, w2, w3, w4, w5, w6⟩
set_option maxRecDepth 100000 in
theorem shut_date {H : Type} {enc : TypeId × Value → H} {W : World} {base : Nat} {sp : Nat → Bool} {held : Bool} {n0 n1 n2 n3 n4 n5 n6 : Int} (w0 : (Lit.int .i64 n0).wf = true) (w1 : (Lit.int .i64 n1).wf = true) (w2 : (Lit.int .i64 n2).wf = true) (w3 : (Lit.int .i64 n3).wf = true) (w4 : (Lit.int .i64 n4).wf = true) (w5 : (Lit.int .i64 n5).wf = true) (w6 : (Lit.int .i64 n6).wf = true) :
    DataW.Trod enc Tryd.prog W base sp held 32 (.agg #[.int .i64 n0, .int .i64 n1, .int .i64 n2, .int .i64 n3, .int .i64 n4, .int .i64 n5, .int .i64 n6]) (.agg [.lit (.int .i64 n0), .lit (.int .i64 n1), .lit (.int .i64 n2), .lit (.int .i64 n3), .lit (.int .i64 n4), .lit (.int .i64 n5), .lit (.int .i64 n6)]) [] := by
  refine ⟨2, ?_⟩
  have h0 := trod_int_mk (enc := enc) (P := Tryd.prog) (w := W) (base := base) (spare := sp) (held := held) 0 Tryd.underlying3 w0
  have h1 := trod_int_mk (enc := enc) (P := Tryd.prog) (w := W) (base := base) (spare := sp) (held := held) 0 Tryd.underlying3 w1
  have h2 := trod_int_mk (enc := enc) (P := Tryd.prog) (w := W) (base := base) (spare := sp) (held := held) 0 Tryd.underlying3 w2
  have h3 := trod_int_mk (enc := enc) (P := Tryd.prog) (w := W) (base := base) (spare := sp) (held := held) 0 Tryd.underlying3 w3
  have h4 := trod_int_mk (enc := enc) (P := Tryd.prog) (w := W) (base := base) (spare := sp) (held := held) 0 Tryd.underlying3 w4
  have h5 := trod_int_mk (enc := enc) (P := Tryd.prog) (w := W) (base := base) (spare := sp) (held := held) 0 Tryd.underlying3 w5
  have h6 := trod_int_mk (enc := enc) (P := Tryd.prog) (w := W) (base := base) (spare := sp) (held := held) 0 Tryd.underlying3 w6
  have := trod_struct_mk (enc := enc) (P := Tryd.prog) (w := W) (base := base) (spare := sp) (held := held) (n := 1) (cs := [.int .i64 n0, .int .i64 n1, .int .i64 n2, .int .i64 n3, .int .i64 n4, .int .i64 n5, .int .i64 n6]) (xs := [(.lit (.int .i64 n0), []), (.lit (.int .i64 n1), []), (.lit (.int .i64 n2), []), (.lit (.int .i64 n3), []), (.lit (.int .i64 n4), []), (.lit (.int .i64 n5), []), (.lit (.int .i64 n6), [])]) Tryd.underlying32 (by rw [date_cells]; rfl) (by simp [int_cells, h0, h1, h2, h3, h4, h5, h6])
  exact this
end Go.Proofs.YtmfnofpphnlbnaaDoor
