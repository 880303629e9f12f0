/- A script of calls on a jar among a law's arguments. -/
import Derived.Test.YtkenianfpfamcaaGreatDoorWa
import Derived.Test.YtkenianfpfamcaaGreatDoorDc
import Derived.Deep.Slices
namespace Go.Proofs.YtkenianfpfamcaaGreatDoor
open Go Go.ChangeShapes Go.ChangeMaps Go.WideShapes Go.ChangeAt Go.RowKit

theorem bulk_ge {H : Type} (k : Nat) : ∀ (l : List (DataW H)), (∀ d, d ∈ l → k ≤ Rows.uptoBulk d) → k * l.length ≤ Rows.uptoBulkAll l
  | [], _ => by simp [Rows.uptoBulkAll]
  | d :: l, h => by
    have h1 := h d (List.mem_cons_self ..)
    have h2 := bulk_ge k l (fun x hx => h x (List.mem_cons_of_mem _ hx))
    simp only [Rows.uptoBulkAll, List.length_cons, Nat.mul_add]
    omega
theorem bulk_mem {H : Type} : ∀ (l : List (DataW H)) (d : DataW H), d ∈ l → Rows.uptoBulk d ≤ Rows.uptoBulkAll l
  | [], _, h => by cases h
  | x :: l, d, h => by
    simp only [Rows.uptoBulkAll]
    rcases List.mem_cons.1 h with rfl | h
    · omega
    · have := bulk_mem l d h; omega
instance : Inhabited OpC := ⟨⟨0, default, [], [], false, 0⟩⟩
abbrev OpL (w : World) (p : Option Addr) (l : List OpC) : Prop := Lies cellsO 16 w p l
set_option maxRecDepth 100000 in
theorem open_ops {H : Type} {enc : TypeId × Value → H} {W : World} {r : Reach} {b0 : Nat} {v : Value} {d : DataW H} {ps : List MemPlace} (hval : Value.okWide Tryz.prog W r b0 53 v) (hd : DataW.Trod enc Tryz.prog W 0 (fun _ => true) true 53 v d ps) :
    ∃ p cap, ∃ l : List OpC, v = .slice p l.length cap ∧ OpL W p l ∧ (∀ o, o ∈ l → WfO o ∧ lenO o ≤ Rows.uptoBulk d) ∧ 16 * l.length + 1 ≤ Rows.uptoBulk d := by
  obtain ⟨a1, len1, cap1, rfl⟩ := okWide_slice Tryz.underlying53 hval
  obtain ⟨fuel, hf⟩ := hd
  have hf : DataW.trod enc Tryz.prog W 0 (fun _ => true) true fuel 53 [.slice a1 len1 cap1] = some (d, ps) := hf
  rcases Go.Deep.open_slice Tryz.underlying53 hf with ⟨e, hx⟩ | ⟨a', len, cap, m, n, D, Pl, e, hb, hl, hm, hmm, hx, hc⟩
  · simp at e
    obtain ⟨rfl, rfl, rfl⟩ := e
    simp only [Prod.mk.injEq] at hx
    refine ⟨none, 0, [], rfl, ⟨Or.inl rfl⟩, (fun x hx => by cases hx), ?_⟩
    rw [hx.1]
    simp [Rows.uptoBulk]
  · simp at e
    obtain ⟨rfl, rfl, rfl⟩ := e
    simp only [Prod.mk.injEq] at hx
    have hlm : len1 ≤ m := by rw [hmm]; split <;> omega
    have hv : ∀ i, i < len1 → ∃ o : OpC, (∀ k, k < 16 → W.cell? (a'.add (i * 16 + k)) = (cellsO o)[k]?) ∧ D i = datO o ∧ WfO o := by
      intro i hi
      obtain ⟨cs', h1, h2⟩ := hc i (by omega)
      rw [op_cells] at h1
      obtain ⟨_, hlen, hcs⟩ := World.cells?_some h1
      obtain ⟨o, ho, hx', hwf⟩ := open_cellsO hlen h2
      simp only [Prod.mk.injEq] at hx'
      refine ⟨o, fun k hk => ?_, hx'.1, hwf⟩
      rw [← Go.Deep.add_add, hcs k hk, ho]
    obtain ⟨F, hF⟩ := Go.Deep.choose_lt hv
    obtain ⟨b, off, spot⟩ := a'
    have hbk : ∀ i, i < len1 → lenO (F i) + 16 ≤ Rows.uptoBulk (D i) := by
      intro i hi
      rw [(hF i hi).2.1]
      exact bulkO _
    refine ⟨some ⟨b, off, spot⟩, cap1, (List.range len1).map F, by simp, ?_, fun x hx' => ?_, ?_⟩
    · rcases Nat.eq_zero_or_pos len1 with hz | hz
      · subst hz; exact ⟨Or.inl rfl⟩
      have hsp : spot = none := by
        have h0 : W.cell? ((⟨b, off, spot⟩ : Addr).add (0 * 16 + 0)) = some (.int .i64 (F 0).kind) := (hF 0 (by omega)).1 0 (by decide)
        simpa [Addr.add] using World.cell?_spot h0
      subst hsp
      refine ⟨Or.inr ⟨b, off, rfl, ?_, fun j hj i hi => ?_⟩⟩
      · have h0 : W.cell? ((⟨b, off, none⟩ : Addr).add (0 * 16 + 0)) = some (.int .i64 (F 0).kind) := (hF 0 (by omega)).1 0 (by decide)
        rw [Addr.add_lit] at h0
        rcases Nat.lt_or_ge b W.heap.size with h | h
        · exact h
        · simp [World.cell?, Array.getElem?_eq_none h] at h0
      · simp at hj
        have h0 := (hF j hj).1 i hi
        rw [Addr.add_lit, ← Nat.add_assoc] at h0
        rw [h0]
        simp
    · obtain ⟨i, hi, rfl⟩ := List.mem_map.1 hx'
      have hi := List.mem_range.1 hi
      refine ⟨(hF i hi).2.2, ?_⟩
      have h1 := hbk i hi
      have h2 := bulk_mem ((List.range len1).map D) (D i) (List.mem_map.2 ⟨i, List.mem_range.2 hi, rfl⟩)
      rw [hx.1]
      simp only [Rows.uptoBulk]
      omega
    · rw [hx.1]
      simp only [Rows.uptoBulk, List.length_map, List.length_range]
      have := bulk_ge (H := H) 16 ((List.range len1).map D) (fun d hd => by
        obtain ⟨i, hi, rfl⟩ := List.mem_map.1 hd
        have := hbk i (List.mem_range.1 hi)
        omega)
      rw [List.length_map, List.length_range] at this
      omega
end Go.Proofs.YtkenianfpfamcaaGreatDoor
