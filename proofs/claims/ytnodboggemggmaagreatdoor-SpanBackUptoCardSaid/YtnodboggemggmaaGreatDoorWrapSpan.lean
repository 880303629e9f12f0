/- A span and a row of spans among a law's arguments: what they are, and that they read as before. -/
import Derived.Test.YtnodboggemggmaaGreatDoorWrap
import Derived.Test.YtnodboggemggmaaGreatDoorSpanG
import Derived.Test.YtnodboggemggmaaGreatDoorDigits
import Derived.Deep.SlicePairs
import Derived.Carry
import Derived.MakeChecks
import Derived.Stop.LaidErr
namespace Go.Proofs.YtnodboggemggmaaGreatDoor
open Go Go.ChangeShapes Go.ChangeMaps Go.WideShapes Go.ChangeAt Go.RowKit

/-- the list of tables that most rows of this seat bear -/
def laidP : List (String × DataW Unit) := [("math/bits.deBruijn32tab", Rows.laid_math_bits_deBruijn32tab), ("math/bits.deBruijn64tab", Rows.laid_math_bits_deBruijn64tab), ("internal/strconv.uint64pow10", Rows.laid_internal_strconv_uint64pow10), ("unicode/utf8.acceptRanges", Rows.laid_unicode_utf8_acceptRanges), ("unicode/utf8.first", Rows.laid_unicode_utf8_first)]
theorem pow_type : (Tryz.prog.globals[1]?).map (·.type) = some 144 := by kernel_rfl
theorem envP_of {W : World} (h : laidMetH Tryz.prog laidP W) (hsh : W.ShapedOpen Tryz.prog) : EnvP W where
  env := env_of_shaped hsh
  pow := by
    rw [MakeChecks.laidMetH_plain _ _ _ (by kernel_rfl)] at h
    exact Lib.tabIs_of_head (rest := [("unicode/utf8.acceptRanges", Rows.laid_unicode_utf8_acceptRanges), ("unicode/utf8.first", Rows.laid_unicode_utf8_first)]) gPow pow_type Tryz.underlying144 Tryz.underlying108 (by kernel_rfl) (by kernel_rfl) h.tail.tail
theorem int_of_wf {n : Int} (h : (Lit.int .i64 n).wf = true) : -9223372036854775808 ≤ n ∧ n ≤ 9223372036854775807 := by
  simp [Lit.wf, IntKind.min, IntKind.max, IntKind.signed, IntKind.bits] at h
  omega
set_option maxRecDepth 100000 in
theorem open_span {H : Type} {enc : TypeId × Value → H} {W : World} {r : Reach} {b0 base : Nat} {sp : Nat → Bool} {held : Bool} {v : Value} {d : DataW H} {ps : List MemPlace}
    (hval : Value.okWide Tryz.prog W r b0 38 v) (hd : DataW.Trod enc Tryz.prog W base sp held 38 v d ps) :
    ∃ a b : Int, v = .agg #[.int .i64 a, .int .i64 b] ∧ d = .agg [.lit (.int .i64 a), .lit (.int .i64 b)] ∧ ps = [] ∧ (Lit.int .i64 a).wf = true ∧ (Lit.int .i64 b).wf = true := by
  obtain ⟨cs, rfl, hsz⟩ := okWide_struct Tryz.underlying38 hval
  obtain ⟨fuel, hf⟩ := hd
  have c2 : Tryz.prog.cellsOf 38 = 2 := by kernel_rfl
  have c1 : Tryz.prog.cellsOf 3 = 1 := by kernel_rfl
  rw [c2] at hsz
  obtain ⟨y0, y1, n, hx, hl, h0, h1⟩ := trod_struct2 Tryz.underlying38 hf
  obtain ⟨cs⟩ := cs
  match cs, hsz with
  | [u0, u1], _ =>
    simp only [Value.cells, c1, List.drop_zero, List.drop_succ_cons, List.take_succ_cons, List.take_zero] at h0 h1
    obtain ⟨a, e0, g0, w0⟩ := DataW.trod_int Tryz.underlying3 h0
    obtain ⟨b, e1, g1, w1⟩ := DataW.trod_int Tryz.underlying3 h1
    simp at e0 e1
    subst e0; subst e1; subst g0; subst g1
    simp only [Prod.mk.injEq] at hx
    exact ⟨a, b, rfl, hx.1, by simpa using hx.2, w0, w1⟩
set_option maxRecDepth 100000 in
theorem shut_span {H : Type} {enc : TypeId × Value → H} {W : World} {base : Nat} {sp : Nat → Bool} {held : Bool} {a b : Int} (wa : (Lit.int .i64 a).wf = true) (wb : (Lit.int .i64 b).wf = true) :
    DataW.Trod enc Tryz.prog W base sp held 38 (.agg #[.int .i64 a, .int .i64 b]) (.agg [.lit (.int .i64 a), .lit (.int .i64 b)]) [] := by
  have c2 : Tryz.prog.cellsOf 38 = 2 := by kernel_rfl
  have c1 : Tryz.prog.cellsOf 3 = 1 := by kernel_rfl
  refine ⟨2, ?_⟩
  have h0 := trod_int_mk (enc := enc) (P := Tryz.prog) (w := W) (base := base) (spare := sp) (held := held) 0 Tryz.underlying3 wa
  have h1 := trod_int_mk (enc := enc) (P := Tryz.prog) (w := W) (base := base) (spare := sp) (held := held) 0 Tryz.underlying3 wb
  exact trod_struct2_mk (y0 := (.lit (.int .i64 a), [])) (y1 := (.lit (.int .i64 b), [])) Tryz.underlying38 (by rw [c2]; rfl) (by simpa [Value.cells, c1] using h0) (by simpa [Value.cells, c1] using h1)
end Go.Proofs.YtnodboggemggmaaGreatDoor
