/- A slice of spans among a law's arguments: what it is. -/
import Derived.Test.YtnodboggemggmaaDoorWrapSpan
import Derived.Test.YtnodboggemggmaaDoorSpanG
import Derived.Deep.SlicePairs
import Derived.Carry
namespace Go.Proofs.YtnodboggemggmaaDoor
open Go Go.ChangeShapes Go.ChangeMaps Go.WideShapes Go.ChangeAt Go.RowKit

theorem laidOut : laidOutB Tryd.prog = true := by kernel_rfl
theorem bulk_ge {H : Type} (k : Nat) : ∀ (l : List (DataW H)), (∀ d, d ∈ l → k ≤ Rows.uptoBulk d) → k * l.length ≤ Rows.uptoBulkAll l
  | [], _ => by simp [Rows.uptoBulkAll]
  | d :: l, h => by
    have h1 := h d (List.mem_cons_self ..)
    have h2 := bulk_ge k l (fun x hx => h x (List.mem_cons_of_mem _ hx))
    simp only [Rows.uptoBulkAll, List.length_cons, Nat.mul_add]
    omega
def intV (v : Value) : Int := match v with | .int _ n => n | _ => 0
set_option maxRecDepth 100000 in
theorem open_spans_at {H : Type} {enc : TypeId × Value → H} {W : World} {v : Value} {d : DataW H} {ps : List MemPlace} {fuel : Nat} (hf : DataW.trod enc Tryd.prog W 0 (fun _ => true) true fuel 22 [v] = some (d, ps)) :
    ∃ l : List (Int × Int), SpanSl W v l ∧ 3 * l.length + 1 ≤ Rows.uptoBulk d ∧ ∀ x, x ∈ l → (-9223372036854775808 ≤ x.1 ∧ x.1 ≤ 9223372036854775807) ∧ (-9223372036854775808 ≤ x.2 ∧ x.2 ≤ 9223372036854775807) := by
  have c2 : Tryd.prog.cellsOf 33 = 2 := by kernel_rfl
  have c1 : Tryd.prog.cellsOf 3 = 1 := by kernel_rfl
  rcases Go.Deep.open_slice_pairs Tryd.underlying22 Tryd.underlying33 c2 rfl rfl c1 c1 hf with ⟨e, hx⟩ | ⟨a', len, cap, m, n, V0, V1, D0, D1, P0, P1, e, hb, hl, hm, hmm, hx, hc⟩
  · simp at e
    subst e
    simp only [Prod.mk.injEq] at hx
    refine ⟨[], ⟨none, 0, rfl, fun j hj => by simp at hj⟩, ?_, fun x hx => by cases hx⟩
    rw [hx.1]
    simp [Rows.uptoBulk]
  · simp at e
    subst e
    simp only [Prod.mk.injEq] at hx
    have hlm : len ≤ m := by rw [hmm]; split <;> omega
    have hv : ∀ i, i < len → V0 i = .int .i64 (intV (V0 i)) ∧ V1 i = .int .i64 (intV (V1 i)) ∧ (D0 i = .lit (.int .i64 (intV (V0 i)))) ∧ (D1 i = .lit (.int .i64 (intV (V1 i)))) ∧ (-9223372036854775808 ≤ intV (V0 i) ∧ intV (V0 i) ≤ 9223372036854775807) ∧ (-9223372036854775808 ≤ intV (V1 i) ∧ intV (V1 i) ≤ 9223372036854775807) := by
      intro i hi
      obtain ⟨_, _, h0, h1⟩ := hc i (by omega)
      obtain ⟨p, q0, q1, q2⟩ := DataW.trod_int Tryd.underlying3 h0
      obtain ⟨p', q0', q1', q2'⟩ := DataW.trod_int Tryd.underlying3 h1
      simp at q0 q0'
      simp only [Prod.mk.injEq] at q1 q1'
      have i1 : intV (V0 i) = p := by rw [q0]; rfl
      have i2 : intV (V1 i) = p' := by rw [q0']; rfl
      rw [i1, i2]
      exact ⟨q0, q0', q1.1, q1'.1, int_of_wf q2, int_of_wf q2'⟩
    obtain ⟨b, off, spot⟩ := a'
    refine ⟨(List.range len).map fun i => (intV (V0 i), intV (V1 i)), ⟨some ⟨b, off, spot⟩, cap, by simp, fun j hj => ?_⟩, ?_, fun x hx => ?_⟩
    · simp at hj
      obtain ⟨h0, h1, _, _⟩ := hc j (by omega)
      have hsp : spot = none := by
        have := (hc 0 (by omega)).1
        simpa [Addr.add] using World.cell?_spot this
      subst hsp
      rw [Addr.add_lit] at h0 h1
      refine ⟨b, off, rfl, ?_, ?_, ?_⟩
      · rcases Nat.lt_or_ge b W.heap.size with h | h
        · exact h
        · simp [World.cell?, Array.getElem?_eq_none h] at h0
      · rw [h0, (hv j hj).1]; simp [intV]
      · rw [Nat.add_assoc, h1, (hv j hj).2.1]; simp [intV]
    · rw [hx.1]
      simp only [Rows.uptoBulk, List.length_map, List.length_range]
      have := bulk_ge (H := H) 3 ((List.range len).map fun i => .agg [D0 i, D1 i]) (fun d hd => by
        obtain ⟨i, hi, rfl⟩ := List.mem_map.1 hd
        obtain ⟨_, _, g0, g1, _⟩ := hv i (List.mem_range.1 hi)
        rw [g0, g1]
        simp [Rows.uptoBulk, Rows.uptoBulkAll])
      rw [List.length_map, List.length_range] at this
      omega
    · obtain ⟨i, hi, rfl⟩ := List.mem_map.1 hx
      obtain ⟨_, _, _, _, g0, g1⟩ := hv i (List.mem_range.1 hi)
      exact ⟨g0, g1⟩
set_option maxRecDepth 100000 in
theorem open_spans {H : Type} {enc : TypeId × Value → H} {W : World} {r : Reach} {b0 : Nat} {v : Value} {d : DataW H} {ps : List MemPlace} (hval : Value.okWide Tryd.prog W r b0 22 v) (hd : DataW.Trod enc Tryd.prog W 0 (fun _ => true) true 22 v d ps) :
    ∃ l : List (Int × Int), SpanSl W v l ∧ 3 * l.length + 1 ≤ Rows.uptoBulk d ∧ ∀ x, x ∈ l → (-9223372036854775808 ≤ x.1 ∧ x.1 ≤ 9223372036854775807) ∧ (-9223372036854775808 ≤ x.2 ∧ x.2 ≤ 9223372036854775807) := by
  obtain ⟨a, len, cap, rfl⟩ := okWide_slice Tryd.underlying22 hval
  obtain ⟨fuel, hf⟩ := hd
  exact open_spans_at hf
end Go.Proofs.YtnodboggemggmaaDoor
