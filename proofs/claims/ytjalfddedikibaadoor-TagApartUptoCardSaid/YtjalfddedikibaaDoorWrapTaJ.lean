/- What was asked, and what a resource is, among a law's arguments. -/
import Derived.Test.YtjalfddedikibaaDoorWrapTJ
import Derived.Test.YtjalfddedikibaaDoorTagGJ
namespace Go.Proofs.YtjalfddedikibaaDoor
open Go Go.ChangeShapes Go.ChangeMaps Go.WideShapes Go.ChangeAt Go.RowKit

theorem field_cells : Tryd.prog.cellsOf 47 = 2 := by kernel_rfl
theorem fields_cells : Tryd.prog.cellsOf 40 = 1 := by kernel_rfl
theorem asked_cells : Tryd.prog.cellsOf 42 = 3 := by kernel_rfl
theorem state_cells : Tryd.prog.cellsOf 44 = 6 := by kernel_rfl
theorem int_cells : Tryd.prog.cellsOf 3 = 1 := by kernel_rfl
def txV (v : Value) : Tx := match v with | .string s => L s | _ => []
theorem bulk_fields {H : Type} (D : Nat → DataW H) (F : Nat → Fd) : ∀ (is : List Nat), (∀ i, i ∈ is → (F i).1.length + (F i).2.length + 2 ≤ Rows.uptoBulk (D i)) → fSum (is.map F) ≤ Rows.uptoBulkAll (is.map D)
  | [], _ => by simp [fSum]
  | i :: is, h => by
    have h1 := h i (List.mem_cons_self ..)
    have h2 := bulk_fields D F is (fun x hx => h x (List.mem_cons_of_mem _ hx))
    unfold fSum at h2 ⊢
    simp only [Rows.uptoBulkAll, List.map_cons, List.sum_cons]
    omega
set_option maxRecDepth 100000 in
theorem open_fields_at {H : Type} {enc : TypeId × Value → H} {W : World} {v : Value} {d : DataW H} {ps : List MemPlace} {fuel : Nat} (hf : DataW.trod enc Tryd.prog W 0 (fun _ => true) true fuel 40 [v] = some (d, ps)) :
    ∃ l : List Fd, FdSl W v l ∧ fSum l + 1 ≤ Rows.uptoBulk d := by
  rcases Go.Deep.open_slice_pairs Tryd.underlying40 Tryd.underlying47 field_cells rfl rfl str_cells str_cells hf with ⟨e, hx⟩ | ⟨a', len, cap, m, n, V0, V1, D0, D1, P0, P1, e, hb, hl, hm, hmm, hx, hc⟩
  · simp at e
    subst e
    simp only [Prod.mk.injEq] at hx
    refine ⟨[], ⟨none, 0, rfl, fun j hj => by simp at hj⟩, ?_⟩
    rw [hx.1]
    simp [Rows.uptoBulk, fSum]
  · simp at e
    subst e
    simp only [Prod.mk.injEq] at hx
    have hlm : len ≤ m := by rw [hmm]; split <;> omega
    have hv : ∀ i, i < len → V0 i = .string (bs (txV (V0 i))) ∧ V1 i = .string (bs (txV (V1 i))) ∧ (D0 i = .lit (.string (txV (V0 i)))) ∧ (D1 i = .lit (.string (txV (V1 i)))) := by
      intro i hi
      obtain ⟨_, _, h0, h1⟩ := hc i (by omega)
      obtain ⟨p, q0, q1, q2⟩ := DataW.trod_string Tryd.underlying9 h0
      obtain ⟨p', q0', q1', q2'⟩ := DataW.trod_string Tryd.underlying9 h1
      simp at q0 q0'
      simp only [Prod.mk.injEq] at q1 q1'
      have i1 : txV (V0 i) = L p := by rw [q0]; rfl
      have i2 : txV (V1 i) = L p' := by rw [q0']; rfl
      rw [i1, i2, bs_L, bs_L]
      exact ⟨q0, q0', q1.1, q1'.1⟩
    obtain ⟨b, off, spot⟩ := a'
    refine ⟨(List.range len).map fun i => (txV (V0 i), txV (V1 i)), ⟨some ⟨b, off, spot⟩, cap, by simp, fun j hj => ?_⟩, ?_⟩
    · simp at hj
      obtain ⟨h0, h1, _, _⟩ := hc j (by omega)
      have hsp : spot = none := by
        have := (hc 0 (by omega)).1
        simpa [Addr.add] using World.cell?_spot this
      subst hsp
      rw [Addr.add_lit] at h0 h1
      refine ⟨b, off, rfl, ?_, ?_, ?_⟩
      · rcases Nat.lt_or_ge b W.heap.size with h | h
        · exact h
        · simp [World.cell?, Array.getElem?_eq_none h] at h0
      · rw [h0, (hv j hj).1]; simp [txV]
      · rw [Nat.add_assoc, h1, (hv j hj).2.1]; simp [txV]
    · rw [hx.1]
      simp only [Rows.uptoBulk]
      have := bulk_fields (H := H) (fun i => .agg [D0 i, D1 i]) (fun i => (txV (V0 i), txV (V1 i))) (List.range len) (fun i hi => by
        obtain ⟨_, _, g0, g1⟩ := hv i (List.mem_range.1 hi)
        rw [g0, g1]
        simp [Rows.uptoBulk, Rows.uptoBulkAll]; omega)
      omega
set_option maxRecDepth 100000 in
theorem open_asked {H : Type} {enc : TypeId × Value → H} {W : World} {r : Reach} {b0 : Nat} {v : Value} {d : DataW H} {ps : List MemPlace} (hval : Value.okWide Tryd.prog W r b0 42 v) (hd : DataW.Trod enc Tryd.prog W 0 (fun _ => true) true 42 v d ps) :
    ∃ (M : ByteArray) (va : Value) (l : List Fd) (now : Int), v = .agg #[.string M, va, .int .i64 now] ∧ FdSl W va l ∧ M.size + fSum l ≤ Rows.uptoBulk d ∧ (-9223372036854775808 ≤ now ∧ now ≤ 9223372036854775807) := by
  obtain ⟨cs, rfl, hsz⟩ := okWide_struct Tryd.underlying42 hval
  obtain ⟨fuel, hf⟩ := hd
  rw [asked_cells] at hsz
  obtain ⟨xs, n, _, hx, _, hlen, hg⟩ := DataW.trod_struct Tryd.underlying42 hf
  obtain ⟨l⟩ := cs
  match l, hsz, xs, hlen with
  | [u0, u1, u2], _, [y0, y1, y2], _ =>
    have g0 := hg 0 _ rfl
    have g1 := hg 1 _ rfl
    have g2 := hg 2 _ rfl
    simp only [Value.cells, List.getElem?_cons_zero, List.getElem?_cons_succ] at g0 g1 g2
    obtain ⟨n0, e0, k0, w0⟩ := DataW.trod_string Tryd.underlying9 g0
    obtain ⟨n2, e2, k2, w2⟩ := DataW.trod_int Tryd.underlying3 g2
    simp [str_cells, int_cells] at e0 e2
    simp [fields_cells] at g1
    obtain ⟨sl, q1, q2⟩ := open_fields_at (d := y1.1) (ps := y1.2) g1
    subst e0; subst e2
    subst k0; subst k2
    simp only [Prod.mk.injEq] at hx
    refine ⟨n0, u1, sl, n2, rfl, q1, ?_, int_of_wf w2⟩
    rw [hx.1]
    simp [Rows.uptoBulk, Rows.uptoBulkAll]
    have z0 : n0.data.toList.length = n0.size := L_length n0
    simp only [Array.length_toList] at z0
    omega
set_option maxRecDepth 100000 in
theorem open_state {H : Type} {enc : TypeId × Value → H} {W : World} {r : Reach} {b0 : Nat} {v : Value} {d : DataW H} {ps : List MemPlace} (hval : Value.okWide Tryd.prog W r b0 44 v) (hd : DataW.Trod enc Tryd.prog W 0 (fun _ => true) true 44 v d ps) :
    ∃ s : Sta, v = encSt s ∧ (s.tag.2.length ≤ Rows.uptoBulk d) ∧ (-9223372036854775808 ≤ s.time ∧ s.time ≤ 9223372036854775807) := by
  obtain ⟨cs, rfl, hsz⟩ := okWide_struct Tryd.underlying44 hval
  obtain ⟨fuel, hf⟩ := hd
  rw [state_cells] at hsz
  obtain ⟨xs, n, _, hx, _, hlen, hg⟩ := DataW.trod_struct Tryd.underlying44 hf
  obtain ⟨l⟩ := cs
  match l, hsz, xs, hlen with
  | [u0, u1, u2, u3, u4, u5], _, [y0, y1, y2, y3, y4], _ =>
    have g0 := hg 0 _ rfl
    have g1 := hg 1 _ rfl
    have g2 := hg 2 _ rfl
    have g3 := hg 3 _ rfl
    have g4 := hg 4 _ rfl
    simp only [Value.cells, List.getElem?_cons_zero, List.getElem?_cons_succ] at g0 g1 g2 g3 g4
    obtain ⟨n0, e0, k0⟩ := DataW.trod_bool Tryd.underlying4 g0
    obtain ⟨z0, z1, n1, hz, _, h0, h1⟩ := trod_struct2 Tryd.underlying24 g1
    obtain ⟨a, e1, k1⟩ := DataW.trod_bool Tryd.underlying4 h0
    obtain ⟨X, e2, k2, _⟩ := DataW.trod_string Tryd.underlying9 h1
    obtain ⟨n2, e3, k3⟩ := DataW.trod_bool Tryd.underlying4 g2
    obtain ⟨n3, e4, k4, w4⟩ := DataW.trod_int Tryd.underlying3 g3
    obtain ⟨n4, e5, k5⟩ := DataW.trod_bool Tryd.underlying4 g4
    simp [bool_cells, tag_cells, int_cells, str_cells] at e0 e1 e2 e3 e4 e5
    subst e0; subst e1; subst e2; subst e3; subst e4; subst e5
    subst k0; subst k1; subst k2; subst k3; subst k4; subst k5
    subst hz
    simp only [Prod.mk.injEq] at hx
    refine ⟨⟨n0, (a, L X), n2, n3, n4⟩, rfl, ?_, int_of_wf w4⟩
    rw [hx.1]
    simp [Rows.uptoBulk, Rows.uptoBulkAll]
    show (L X).length ≤ _
    have z0 : X.data.toList.length = X.size := L_length X
    simp only [Array.length_toList] at z0
    rw [L_length]
    omega
end Go.Proofs.YtjalfddedikibaaDoor
