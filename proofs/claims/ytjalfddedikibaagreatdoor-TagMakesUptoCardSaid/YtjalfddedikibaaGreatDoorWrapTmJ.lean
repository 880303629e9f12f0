/- What the claims of Make need: the table of powers of ten; a body, another one, a method among a law's arguments. -/
import Derived.Test.YtjalfddedikibaaGreatDoorMe
import Derived.Test.YtjalfddedikibaaGreatDoorTagMcJ
namespace Go.Proofs.YtjalfddedikibaaGreatDoor
open Go Go.ChangeShapes Go.ChangeMaps Go.WideShapes Go.ChangeAt Go.RowKit

/-- the list of tables that the rows of Make bear -/
def laidM : List (String × DataW Unit) := [("math/bits.deBruijn32tab", Rows.laid_math_bits_deBruijn32tab), ("math/bits.deBruijn64tab", Rows.laid_math_bits_deBruijn64tab), ("internal/strconv.uint64pow10", Rows.laid_internal_strconv_uint64pow10), ("unicode/utf8.acceptRanges", Rows.laid_unicode_utf8_acceptRanges), ("turnpike/stamp.weekdays", Rows.laid_turnpike_stamp_weekdays), ("turnpike/stamp.months", Rows.laid_turnpike_stamp_months), ("unicode/utf8.first", Rows.laid_unicode_utf8_first)]
theorem pow_type : (Tryz.prog.globals[2]?).map (·.type) = some 176 := by kernel_rfl
theorem envM_of {W : World} (h : laidMetH Tryz.prog laidM W) (hsh : W.ShapedOpen Tryz.prog) : EnvM W := by
  rw [MakeChecks.laidMetH_plain _ _ _ (by kernel_rfl)] at h
  exact {
    env := envS_at hsh h.tail.tail.tail.tail
    pow := Lib.tabIs_of_head (rest := [("unicode/utf8.acceptRanges", Rows.laid_unicode_utf8_acceptRanges), ("turnpike/stamp.weekdays", Rows.laid_turnpike_stamp_weekdays), ("turnpike/stamp.months", Rows.laid_turnpike_stamp_months), ("unicode/utf8.first", Rows.laid_unicode_utf8_first)]) gPowM pow_type Tryz.underlying176 Tryz.underlying75 (by kernel_rfl) (by kernel_rfl) h.tail.tail }
theorem own_cells : Tryz.prog.cellsOf 48 = 4 := by kernel_rfl
set_option maxRecDepth 100000 in
theorem open_own {H : Type} {enc : TypeId × Value → H} {W : World} {r : Reach} {b0 : Nat} {v : Value} {d : DataW H} {ps : List MemPlace} (hval : Value.okWide Tryz.prog W r b0 48 v) (hd : DataW.Trod enc Tryz.prog W 0 (fun _ => true) true 48 v d ps) :
    ∃ (B O M : ByteArray) (k : Bool), v = .agg #[.string B, .string O, .string M, .bool k] ∧ B.size + O.size + M.size ≤ Rows.uptoBulk d := by
  obtain ⟨cs, rfl, hsz⟩ := okWide_struct Tryz.underlying48 hval
  obtain ⟨fuel, hf⟩ := hd
  rw [own_cells] at hsz
  obtain ⟨xs, n, _, hx, _, hlen, hg⟩ := DataW.trod_struct Tryz.underlying48 hf
  obtain ⟨l⟩ := cs
  match l, hsz, xs, hlen with
  | [u0, u1, u2, u3], _, [y0, y1, y2, y3], _ =>
    have g0 := hg 0 _ rfl
    have g1 := hg 1 _ rfl
    have g2 := hg 2 _ rfl
    have g3 := hg 3 _ rfl
    simp only [Value.cells, List.getElem?_cons_zero, List.getElem?_cons_succ] at g0 g1 g2 g3
    obtain ⟨n0, e0, k0, w0⟩ := DataW.trod_string Tryz.underlying9 g0
    obtain ⟨n1, e1, k1, w1⟩ := DataW.trod_string Tryz.underlying9 g1
    obtain ⟨n2, e2, k2, w2⟩ := DataW.trod_string Tryz.underlying9 g2
    obtain ⟨n3, e3, k3⟩ := DataW.trod_bool Tryz.underlying4 g3
    simp [str_cells, bool_cells] at e0 e1 e2 e3
    subst e0; subst e1; subst e2; subst e3
    subst k0; subst k1; subst k2; subst k3
    simp only [Prod.mk.injEq] at hx
    refine ⟨n0, n1, n2, n3, rfl, ?_⟩
    rw [hx.1]
    simp [Rows.uptoBulk, Rows.uptoBulkAll]
    have z0 : n0.data.toList.length = n0.size := L_length n0
    have z1 : n1.data.toList.length = n1.size := L_length n1
    have z2 : n2.data.toList.length = n2.size := L_length n2
    simp only [Array.length_toList] at z0 z1 z2
    omega
set_option maxRecDepth 100000 in
theorem open_bool {H : Type} {enc : TypeId × Value → H} {W : World} {r : Reach} {b0 : Nat} {v : Value} {d : DataW H} {ps : List MemPlace} (hval : Value.okWide Tryz.prog W r b0 4 v) (_ : DataW.Trod enc Tryz.prog W 0 (fun _ => true) true 4 v d ps) : ∃ k : Bool, v = .bool k :=
  okWide_bool Tryz.underlying4 hval
end Go.Proofs.YtjalfddedikibaaGreatDoor
