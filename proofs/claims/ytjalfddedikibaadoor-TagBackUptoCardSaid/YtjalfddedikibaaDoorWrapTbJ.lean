/- Tags and bytes among a law's arguments. -/
import Derived.Test.YtjalfddedikibaaDoorWrapTJ
import Derived.Test.YtjalfddedikibaaDoorTagBbJ
import Derived.Deep.Slices
namespace Go.Proofs.YtjalfddedikibaaDoor
open Go Go.ChangeShapes Go.ChangeMaps Go.WideShapes Go.ChangeAt Go.RowKit

theorem u8_cells : Tryd.prog.cellsOf 5 = 1 := by kernel_rfl
def boolV (v : Value) : Bool := match v with | .bool b => b | _ => false
def textV (v : Value) : List UInt8 := match v with | .string s => L s | _ => []
def byteV (v : Value) : UInt8 := match v with | .int _ n => UInt8.ofNat n.toNat | _ => 0
theorem u8_of_wf {n : Int} (h : (Lit.int .u8 n).wf = true) : n = ((UInt8.ofNat n.toNat).toNat : Int) := by
  simp [Lit.wf, IntKind.min, IntKind.max, IntKind.signed, IntKind.bits] at h
  rw [UInt8.toNat_ofNat']
  omega
theorem bulk_tags {H : Type} (D : Nat → DataW H) (F : Nat → Tg) : ∀ (is : List Nat), (∀ i, i ∈ is → (F i).2.length + 3 ≤ Rows.uptoBulk (D i)) → tSum (is.map F) ≤ Rows.uptoBulkAll (is.map D)
  | [], _ => by simp [tSum]
  | i :: is, h => by
    have h1 := h i (List.mem_cons_self ..)
    have h2 := bulk_tags D F is (fun x hx => h x (List.mem_cons_of_mem _ hx))
    unfold tSum at h2 ⊢
    simp only [Rows.uptoBulkAll, List.map_cons, List.sum_cons]
    omega
theorem bulk_bytes {H : Type} (D : Nat → DataW H) : ∀ (is : List Nat), (∀ i, i ∈ is → 1 ≤ Rows.uptoBulk (D i)) → is.length ≤ Rows.uptoBulkAll (is.map D)
  | [], _ => by simp
  | i :: is, h => by
    have h1 := h i (List.mem_cons_self ..)
    have h2 := bulk_bytes D is (fun x hx => h x (List.mem_cons_of_mem _ hx))
    simp only [Rows.uptoBulkAll, List.map_cons, List.length_cons]
    omega
set_option maxRecDepth 100000 in
theorem open_tags {H : Type} {enc : TypeId × Value → H} {W : World} {r : Reach} {b0 : Nat} {v : Value} {d : DataW H} {ps : List MemPlace} (hval : Value.okWide Tryd.prog W r b0 33 v) (hd : DataW.Trod enc Tryd.prog W 0 (fun _ => true) true 33 v d ps) :
    ∃ l : List Tg, TgSl W v l ∧ tSum l + 1 ≤ Rows.uptoBulk d := by
  obtain ⟨a1, len1, cap1, rfl⟩ := okWide_slice Tryd.underlying33 hval
  obtain ⟨fuel, hf⟩ := hd
  have hf : DataW.trod enc Tryd.prog W 0 (fun _ => true) true fuel 33 [.slice a1 len1 cap1] = some (d, ps) := hf
  rcases Go.Deep.open_slice_pairs Tryd.underlying33 Tryd.underlying24 tag_cells rfl rfl bool_cells str_cells hf with ⟨e, hx⟩ | ⟨a', len, cap, m, n, V0, V1, D0, D1, P0, P1, e, hb, hl, hm, hmm, hx, hc⟩
  · simp at e
    obtain ⟨rfl, rfl, rfl⟩ := e
    simp only [Prod.mk.injEq] at hx
    refine ⟨[], ⟨none, 0, rfl, fun j hj => by simp at hj⟩, ?_⟩
    rw [hx.1]
    simp [Rows.uptoBulk, tSum]
  · simp at e
    obtain ⟨rfl, rfl, rfl⟩ := e
    simp only [Prod.mk.injEq] at hx
    have hlm : len1 ≤ m := by rw [hmm]; split <;> omega
    have hv : ∀ i, i < len1 → V0 i = .bool (boolV (V0 i)) ∧ V1 i = .string (bs (textV (V1 i))) ∧ (D0 i = .lit (.bool (boolV (V0 i)))) ∧ (D1 i = .lit (.string (textV (V1 i)))) := by
      intro i hi
      obtain ⟨_, _, h0, h1⟩ := hc i (by omega)
      obtain ⟨p, q0, q1⟩ := DataW.trod_bool Tryd.underlying4 h0
      obtain ⟨p', q0', q1', q2'⟩ := DataW.trod_string Tryd.underlying9 h1
      simp at q0 q0'
      simp only [Prod.mk.injEq] at q1 q1'
      have i1 : boolV (V0 i) = p := by rw [q0]; rfl
      have i2 : textV (V1 i) = L p' := by rw [q0']; rfl
      rw [i1, i2, bs_L]
      exact ⟨q0, q0', q1.1, q1'.1⟩
    obtain ⟨b, off, spot⟩ := a'
    refine ⟨(List.range len1).map fun i => (boolV (V0 i), textV (V1 i)), ⟨some ⟨b, off, spot⟩, cap1, by simp, fun j hj => ?_⟩, ?_⟩
    · simp at hj
      obtain ⟨h0, h1, _, _⟩ := hc j (by omega)
      have hsp : spot = none := by
        have := (hc 0 (by omega)).1
        simpa [Addr.add] using World.cell?_spot this
      subst hsp
      rw [Addr.add_lit] at h0 h1
      refine ⟨b, off, rfl, ?_, ?_, ?_⟩
      · rcases Nat.lt_or_ge b W.heap.size with h | h
        · exact h
        · simp [World.cell?, Array.getElem?_eq_none h] at h0
      · rw [h0, (hv j hj).1]; simp [boolV]
      · rw [Nat.add_assoc, h1, (hv j hj).2.1]; simp [textV]
    · rw [hx.1]
      simp only [Rows.uptoBulk]
      have := bulk_tags (H := H) (fun i => .agg [D0 i, D1 i]) (fun i => (boolV (V0 i), textV (V1 i))) (List.range len1) (fun i hi => by
        obtain ⟨_, _, g0, g1⟩ := hv i (List.mem_range.1 hi)
        rw [g0, g1]
        simp [Rows.uptoBulk, Rows.uptoBulkAll]; omega)
      omega
set_option maxRecDepth 100000 in
theorem open_bytes {H : Type} {enc : TypeId × Value → H} {W : World} {r : Reach} {b0 : Nat} {v : Value} {d : DataW H} {ps : List MemPlace} (hval : Value.okWide Tryd.prog W r b0 56 v) (hd : DataW.Trod enc Tryd.prog W 0 (fun _ => true) true 56 v d ps) :
    ∃ l : List UInt8, BySl W v l ∧ l.length + 1 ≤ Rows.uptoBulk d := by
  obtain ⟨a1, len1, cap1, rfl⟩ := okWide_slice Tryd.underlying56 hval
  obtain ⟨fuel, hf⟩ := hd
  have hf : DataW.trod enc Tryd.prog W 0 (fun _ => true) true fuel 56 [.slice a1 len1 cap1] = some (d, ps) := hf
  rcases Go.Deep.open_slice1 Tryd.underlying56 u8_cells hf with ⟨e, hx⟩ | ⟨a', len, cap, m, n, V, D, Pl, e, hb, hl, hm, hmm, hx, hc⟩
  · simp at e
    obtain ⟨rfl, rfl, rfl⟩ := e
    simp only [Prod.mk.injEq] at hx
    refine ⟨[], ⟨none, 0, rfl, fun j hj => by simp at hj⟩, ?_⟩
    rw [hx.1]
    simp [Rows.uptoBulk]
  · simp at e
    obtain ⟨rfl, rfl, rfl⟩ := e
    simp only [Prod.mk.injEq] at hx
    have hlm : len1 ≤ m := by rw [hmm]; split <;> omega
    have hv : ∀ i, i < len1 → V i = .int .u8 (byteV (V i)).toNat ∧ 1 ≤ Rows.uptoBulk (D i) := by
      intro i hi
      obtain ⟨_, h0⟩ := hc i (by omega)
      obtain ⟨p, q0, q1, q2⟩ := DataW.trod_int Tryd.underlying5 h0
      simp at q0
      simp only [Prod.mk.injEq] at q1
      have i1 : byteV (V i) = UInt8.ofNat p.toNat := by rw [q0]; rfl
      rw [i1, ← u8_of_wf q2]
      exact ⟨q0, by rw [q1.1]; simp [Rows.uptoBulk]⟩
    obtain ⟨b, off, spot⟩ := a'
    refine ⟨(List.range len1).map fun i => byteV (V i), ⟨some ⟨b, off, spot⟩, cap1, by simp, fun j hj => ?_⟩, ?_⟩
    · simp at hj
      obtain ⟨h0, _⟩ := hc j (by omega)
      have hsp : spot = none := by
        have := (hc 0 (by omega)).1
        simpa [Addr.add] using World.cell?_spot this
      subst hsp
      rw [Addr.add_lit] at h0
      refine ⟨b, off, rfl, ?_, ?_⟩
      · rcases Nat.lt_or_ge b W.heap.size with h | h
        · exact h
        · simp [World.cell?, Array.getElem?_eq_none h] at h0
      · rw [h0, (hv j hj).1]; simp [byteV]
    · rw [hx.1]
      simp only [Rows.uptoBulk, List.length_map, List.length_range]
      have := bulk_bytes (H := H) D (List.range len1) (fun i hi => (hv i (List.mem_range.1 hi)).2)
      rw [List.length_range] at this
      omega
end Go.Proofs.YtjalfddedikibaaDoor
