/- Cookies among a law's arguments: one that a server sets, those that a client sends. -/
import Derived.Test.YtkenianfpfamcaaGreatDoorWrapCJ
import Derived.Test.YtkenianfpfamcaaGreatDoorMt
import Derived.Test.YtkenianfpfamcaaGreatDoorMp
namespace Go.Proofs.YtkenianfpfamcaaGreatDoor
open Go Go.ChangeShapes Go.ChangeMaps Go.WideShapes Go.ChangeAt Go.RowKit

theorem sc_cells : Tryz.prog.cellsOf 37 = 11 := by kernel_rfl
theorem ck_cells : Tryz.prog.cellsOf 25 = 2 := by kernel_rfl
theorem i_cells : Tryz.prog.cellsOf 3 = 1 := by kernel_rfl
theorem s_cells : Tryz.prog.cellsOf 9 = 1 := by kernel_rfl
theorem b_cells : Tryz.prog.cellsOf 4 = 1 := by kernel_rfl
def datS {H : Type} (c : SetC) : DataW H := .agg [.lit (.string c.name), .lit (.string c.value), .lit (.string c.path), .lit (.string c.domain), .lit (.int .i64 c.maxAge), .lit (.bool c.hasMax), .lit (.int .i64 c.expires), .lit (.bool c.hasExp), .lit (.bool c.secure), .lit (.bool c.http), .lit (.int .i64 c.same)]
structure WfC (c : SetC) : Prop where
  m : (Lit.int .i64 c.maxAge).wf = true
  e : (Lit.int .i64 c.expires).wf = true
  s : (Lit.int .i64 c.same).wf = true
def lenC (c : SetC) : Nat := c.name.length + c.value.length + c.path.length + c.domain.length
theorem fit_of {c : SetC} (h : WfC c) (hl : lenC c ≤ 1073741824) : FitC c := by
  have m := int_of_wf h.m
  have e := int_of_wf h.e
  have s := int_of_wf h.s
  unfold lenC at hl
  exact ⟨by omega, by omega, by omega, by omega, m.1, m.2, e.1, e.2, s.1, s.2⟩
theorem bulkC {H : Type} (c : SetC) : lenC c + 11 ≤ Rows.uptoBulk (datS (H := H) c) := by
  unfold lenC datS
  simp [Rows.uptoBulk, Rows.uptoBulkAll]
  omega
set_option maxRecDepth 100000 in
theorem open_cellsC {H : Type} {enc : TypeId × Value → H} {W : World} {base : Nat} {sp : Nat → Bool} {held : Bool} {fuel : Nat} {l : List Value} {x : DataW H × List MemPlace} (hsz : l.length = 11)
    (hf : DataW.trod enc Tryz.prog W base sp held fuel 37 l = some x) : ∃ c : SetC, l = cellsS c ∧ x = (datS c, []) ∧ WfC c := by
  obtain ⟨xs, n, _, hx, _, hlen, hg⟩ := DataW.trod_struct Tryz.underlying37 hf
  match l, hsz, xs, hlen with
  | [u0, u1, u2, u3, u4, u5, u6, u7, u8, u9, u10], _, [y0, y1, y2, y3, y4, y5, y6, y7, y8, y9, y10], _ =>
    have g0 := hg 0 _ rfl
    have g1 := hg 1 _ rfl
    have g2 := hg 2 _ rfl
    have g3 := hg 3 _ rfl
    have g4 := hg 4 _ rfl
    have g5 := hg 5 _ rfl
    have g6 := hg 6 _ rfl
    have g7 := hg 7 _ rfl
    have g8 := hg 8 _ rfl
    have g9 := hg 9 _ rfl
    have g10 := hg 10 _ rfl
    simp only [List.getElem?_cons_zero, List.getElem?_cons_succ] at g0 g1 g2 g3 g4 g5 g6 g7 g8 g9 g10
    obtain ⟨s0, a0, k0, w0⟩ := DataW.trod_string Tryz.underlying9 g0
    obtain ⟨s1, a1, k1, w1⟩ := DataW.trod_string Tryz.underlying9 g1
    obtain ⟨s2, a2, k2, w2⟩ := DataW.trod_string Tryz.underlying9 g2
    obtain ⟨s3, a3, k3, w3⟩ := DataW.trod_string Tryz.underlying9 g3
    obtain ⟨n4, a4, k4, c4⟩ := DataW.trod_int Tryz.underlying3 g4
    obtain ⟨n5, a5, k5⟩ := DataW.trod_bool Tryz.underlying4 g5
    obtain ⟨n6, a6, k6, c6⟩ := DataW.trod_int Tryz.underlying3 g6
    obtain ⟨n7, a7, k7⟩ := DataW.trod_bool Tryz.underlying4 g7
    obtain ⟨n8, a8, k8⟩ := DataW.trod_bool Tryz.underlying4 g8
    obtain ⟨n9, a9, k9⟩ := DataW.trod_bool Tryz.underlying4 g9
    obtain ⟨n10, a10, k10, c10⟩ := DataW.trod_int Tryz.underlying3 g10
    simp [i_cells, s_cells, b_cells] at a0 a1 a2 a3 a4 a5 a6 a7 a8 a9 a10
    subst a0; subst a1; subst a2; subst a3; subst a4; subst a5; subst a6; subst a7; subst a8; subst a9; subst a10
    subst k0; subst k1; subst k2; subst k3; subst k4; subst k5; subst k6; subst k7; subst k8; subst k9; subst k10
    refine ⟨⟨L s0, L s1, L s2, L s3, n4, n5, n6, n7, n8, n9, n10⟩, ?_, ?_, ⟨c4, c6, c10⟩⟩
    · unfold cellsS
      simp only [bs_L]
    · rw [hx]; rfl
set_option maxRecDepth 100000 in
theorem open_set {H : Type} {enc : TypeId × Value → H} {W : World} {r : Reach} {b0 base : Nat} {sp : Nat → Bool} {held : Bool} {v : Value} {d : DataW H} {ps : List MemPlace}
    (hval : Value.okWide Tryz.prog W r b0 37 v) (hd : DataW.Trod enc Tryz.prog W base sp held 37 v d ps) :
    ∃ c : SetC, v = .agg (cellsS c).toArray ∧ ps = [] ∧ WfC c ∧ lenC c + 11 ≤ Rows.uptoBulk d := by
  obtain ⟨cs, rfl, hsz⟩ := okWide_struct Tryz.underlying37 hval
  obtain ⟨fuel, hf⟩ := hd
  rw [sc_cells] at hsz
  obtain ⟨c, h1, h2, h3⟩ := open_cellsC (l := cs.toList) (by simpa using hsz) hf
  simp only [Prod.mk.injEq] at h2
  refine ⟨c, ?_, h2.2, h3, ?_⟩
  · congr 1
    apply Array.ext'
    exact h1
  · rw [h2.1]; exact bulkC c
def textV (v : Value) : List UInt8 := match v with | .string s => L s | _ => []
theorem bulk_cks {H : Type} (D : Nat → DataW H) (F : Nat → Ck) : ∀ (is : List Nat), (∀ i, i ∈ is → (F i).1.length + (F i).2.length + 3 ≤ Rows.uptoBulk (D i)) → lenL (is.map F) ≤ Rows.uptoBulkAll (is.map D)
  | [], _ => by simp [lenL]
  | i :: is, h => by
    have h1 := h i (List.mem_cons_self ..)
    have h2 := bulk_cks D F is (fun x hx => h x (List.mem_cons_of_mem _ hx))
    rw [List.map_cons, lenL_cons, List.map_cons]
    simp only [Rows.uptoBulkAll]
    omega
set_option maxRecDepth 100000 in
theorem open_cks {H : Type} {enc : TypeId × Value → H} {W : World} {r : Reach} {b0 : Nat} {v : Value} {d : DataW H} {ps : List MemPlace} (hval : Value.okWide Tryz.prog W r b0 22 v) (hd : DataW.Trod enc Tryz.prog W 0 (fun _ => true) true 22 v d ps) :
    ∃ p cap, ∃ l : List Ck, v = .slice p l.length cap ∧ Cks W p l ∧ l.length ≤ cap ∧ lenL l + 1 ≤ Rows.uptoBulk d := by
  obtain ⟨a1, len1, cap1, rfl⟩ := okWide_slice Tryz.underlying22 hval
  obtain ⟨fuel, hf⟩ := hd
  have hf : DataW.trod enc Tryz.prog W 0 (fun _ => true) true fuel 22 [.slice a1 len1 cap1] = some (d, ps) := hf
  rcases Go.Deep.open_slice_pairs Tryz.underlying22 Tryz.underlying25 ck_cells rfl rfl s_cells s_cells hf with ⟨e, hx⟩ | ⟨a', len, cap, m, n, V0, V1, D0, D1, P0, P1, e, hb, hl, hm, hmm, hx, hc⟩
  · simp at e
    obtain ⟨rfl, rfl, rfl⟩ := e
    simp only [Prod.mk.injEq] at hx
    refine ⟨none, 0, [], rfl, ⟨Or.inl rfl⟩, Nat.le_refl _, ?_⟩
    rw [hx.1]
    simp [Rows.uptoBulk, lenL]
  · simp at e
    obtain ⟨rfl, rfl, rfl⟩ := e
    simp only [Prod.mk.injEq] at hx
    have hlm : len1 ≤ m := by rw [hmm]; split <;> omega
    have hv : ∀ i, i < len1 → V0 i = .string (bs (textV (V0 i))) ∧ V1 i = .string (bs (textV (V1 i))) ∧ (D0 i = .lit (.string (textV (V0 i)))) ∧ (D1 i = .lit (.string (textV (V1 i)))) := by
      intro i hi
      obtain ⟨_, _, h0, h1⟩ := hc i (by omega)
      obtain ⟨p, q0, q1, q2⟩ := DataW.trod_string Tryz.underlying9 h0
      obtain ⟨p', q0', q1', q2'⟩ := DataW.trod_string Tryz.underlying9 h1
      simp at q0 q0'
      simp only [Prod.mk.injEq] at q1 q1'
      have i1 : textV (V0 i) = L p := by rw [q0]; rfl
      have i2 : textV (V1 i) = L p' := by rw [q0']; rfl
      rw [i1, i2, bs_L, bs_L]
      exact ⟨q0, q0', q1.1, q1'.1⟩
    obtain ⟨b, off, spot⟩ := a'
    refine ⟨some ⟨b, off, spot⟩, cap1, (List.range len1).map fun i => (textV (V0 i), textV (V1 i)), by simp, ?_, by simp; omega, ?_⟩
    · rcases Nat.eq_zero_or_pos len1 with hz | hz
      · subst hz; exact ⟨Or.inl rfl⟩
      have hsp : spot = none := by
        have := (hc 0 (by omega)).1
        simpa [Addr.add] using World.cell?_spot this
      subst hsp
      refine ⟨Or.inr ⟨b, off, rfl, ?_, fun j hj => ?_⟩⟩
      · obtain ⟨h0, _, _, _⟩ := hc 0 (by omega)
        rcases Nat.lt_or_ge b W.heap.size with h | h
        · exact h
        · rw [Addr.add_lit] at h0; simp [World.cell?, Array.getElem?_eq_none h] at h0
      · simp at hj
        obtain ⟨h0, h1, _, _⟩ := hc j (by omega)
        rw [Addr.add_lit] at h0 h1
        constructor
        · rw [h0, (hv j hj).1]; simp [textV]
        · rw [Nat.add_assoc, h1, (hv j hj).2.1]; simp [textV]
    · rw [hx.1]
      simp only [Rows.uptoBulk]
      have := bulk_cks (H := H) (fun i => .agg [D0 i, D1 i]) (fun i => (textV (V0 i), textV (V1 i))) (List.range len1) (fun i hi => by
        obtain ⟨_, _, g0, g1⟩ := hv i (List.mem_range.1 hi)
        rw [g0, g1]
        simp [Rows.uptoBulk, Rows.uptoBulkAll]; omega)
      omega
end Go.Proofs.YtkenianfpfamcaaGreatDoor
