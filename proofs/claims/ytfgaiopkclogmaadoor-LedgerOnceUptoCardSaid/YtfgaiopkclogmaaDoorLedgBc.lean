/- Books of ledger: all entries, copied. -/
import Derived.Test.YtfgaiopkclogmaaDoorLedgBb
import Derived.WalkSpells
namespace Go.Proofs.YtfgaiopkclogmaaDoor
open Go Go.RowKit Go.MuLone
set_option maxHeartbeats 4000000

theorem rowE_cons (e : En) (l : List En) : rowE (e :: l) = (cellsE e).toList ++ rowE l := by unfold rowE; simp
theorem rowE_len : ∀ (l : List En), (rowE l).length = l.length * 8
  | [] => rfl
  | e :: l => by rw [rowE_cons, List.length_append, rowE_len l, List.length_cons]; show 8 + _ = _; omega
theorem rowE_one : ∀ (l : List En), ∀ u ∈ rowE l, u.oneCell' = true
  | [], u, h => by cases h
  | e :: l, u, h => by
    rw [rowE_cons, List.mem_append] at h
    rcases h with h | h
    · simp only [cellsE, List.mem_cons, List.not_mem_nil, or_false] at h
      rcases h with rfl | rfl | rfl | rfl | rfl | rfl | rfl | rfl <;> rfl
    · exact rowE_one l u h
theorem Just.full {b : Nat} {w w' : World} (h : Just b w w') (hb : w'.heap[b]? = w.heap[b]?) : Below w.heap.size w w' :=
  ⟨h.os, h.tape, h.output, h.size, fun i hi => by
    by_cases e : i = b
    · subst e; exact hb
    · exact h.block i hi (fun h => by injection h with h; exact e h)⟩

set_option maxRecDepth 100000 in
theorem clone_any (v : Value) (l : List En) (w : World) (hv : w.ownsRow 5 tE 8 v l.length (rowE l)) (hl : l.length ≤ 1000000) :
    Calls Tryd.prog 62 #[v] w fun e w' => (∃ v2, e = .returned v2 ∧ w'.ownsRow w.heap.size tE 8 v2 l.length (rowE l)) ∧ Below w.heap.size w w' := by
  obtain ⟨i0, hi, hz0, hz1, hz2⟩ := info_parts infoEntry
  have HV := Lib.hid hv
  rcases hv.2 with ⟨hvn, h0⟩ | ⟨g, cap, cur, hvs, hrest⟩
  · subst hvn
    have hn := Lib.run_eql_slice_nil (P := Tryd.prog) w 88 25 none 0 0 0 0 Tryd.underlying88
    have hl0 : l = [] := List.eq_nil_of_length_eq_zero h0
    subst hl0
    clear hv h0 HV hl
    go_enter Tryd.func62, Tryd.ntmps62
    go_wp2_with fail
    go_ret
    exact ⟨⟨_, rfl, World.ownsRow_nil ..⟩, Below.refl _ _⟩
  · subst hvs
    have hn := fun wx => Lib.run_eql_slice_nil (P := Tryd.prog) wx 88 25 (some ⟨g, 0, none⟩) l.length cap 0 0 Tryd.underlying88
    have hne : ∀ j u, (rowE l)[j]? = some u → (w.alloc (.cells #[] tE)).cell? ((⟨g, 0, none⟩ : Addr).add j) = some u := by
      intro j u hj
      have hjl : j < l.length * 8 := by rw [← rowE_len]; exact (List.getElem?_eq_some_iff.1 hj).1
      have h1 := HV.out.cellAt j hjl
      rw [Addr.add_lit, Nat.zero_add]
      have hlt := (World.ownsRow.lt HV.out g rfl).2
      exact (((Below.refl w.heap.size w).alloc (Nat.le_refl _) (.cells #[] tE)).cell (p := ⟨g, j, none⟩) hlt).trans (h1.trans hj)
    have HNE := Lib.hid hne
    have OW := Lib.hid (World.ownsRow_lit (w := w) (base := w.heap.size) (e := tE) (size := 8) #[] 0 (Nat.le_refl _) (by unfold maxLen; omega) rfl)
    have HL := Lib.hid hl
    have b0 := Lib.hid ((Below.refl w.heap.size w).alloc (Nat.le_refl _) (.cells #[] tE))
    have HLEN := Lib.hid (rowE_len l)
    have HONE := Lib.hid (rowE_one l)
    clear hv hrest hne hl HV
    go_enter Tryd.func62, Tryd.ntmps62
    go_wp2_with (at_builtin; refine wpList_append_own _ rfl _ _ 88 rfl w.heap.size tE i0 (.agg #[.string ⟨#[]⟩, .int .i64 0, .int .i64 0, .string ⟨#[]⟩, .string ⟨#[]⟩, .int .i64 0, .int .i64 0, .int .i64 0]) 8 88 Tryd.underlying88 hi hz0 hz1 hz2 rfl (by decide) _ 0 [] rfl OW.out ⟨g, 0, none⟩ l.length cap (rowE l) rfl HLEN.out HNE.out HONE.out ?_ ?_ ?_ ?_)
    · have := HL.out; unfold maxLen; omega
    · have := HL.out; omega
    intro v2 w2 hown2 hgrow hnil
    try rw [Nat.zero_add, List.nil_append] at hown2
    have O2 := Lib.hid hown2
    have d2 := b0.out.trans (own_belowL OW.out hgrow (by show w.heap.size ≤ (w.heap.push _).size; rw [Array.size_push]; omega))
    clear hown2 hgrow hnil
    go_wp2_with fail
    go_ret
    exact ⟨⟨_, rfl, O2.out⟩, d2⟩

set_option maxRecDepth 100000 in
theorem entries_any (b : Nat) (v : Value) (l : List En) (w : World) (hB : Bok w b v l) :
    Calls Tryd.prog 49 #[.pointer (some ⟨b, 0, none⟩)] w fun e w' => (∃ v2, e = .returned v2 ∧ w'.ownsRow w.heap.size tE 8 v2 l.length (rowE l)) ∧ Below w.heap.size w w' := by
  have HB := Lib.hid hB
  clear hB
  go_enter_defers Tryd.func49, Tryd.ntmps49
  go_wp2_with fail
  refine (lock_free Tryd.muLib ⟨b, 0, none⟩ _ (HB.out.blk.cell 0) (HB.out.blk.frozen 0)).mono ?_
  rintro x w8 ⟨rfl, rfl⟩
  obtain ⟨w8, h8⟩ := name_it (w.setCell ⟨b, 0, none⟩ (.int .i32 1))
  have BB8 : Hid (Blk w8 b tB #[.int .i32 1, .int .u32 0, .int .i64 (l.length : Nat), v]) := by rw [← h8.out]; exact HB.out.blk.set 0 (.int .i32 1)
  have J8 : Hid (Just b w w8) := by rw [← h8.out]; exact Just.set b 0 w (.int .i32 1)
  have Z8 : Hid (w8.heap.size = w.heap.size) := by rw [← h8.out]; unfold Hid; simp
  rw [h8.out]
  have ROW8 : Hid (w8.ownsRow 5 tE 8 v l.length (rowE l)) := row_kept HB.out.row (fun g hg => J8.out.block g (HB.out.rowlt g hg).2 (fun h => by injection h with h; subst h; exact HB.out.own hg))
  clear h8
  have c3 : w8.cell? ⟨b, 3, none⟩ = some v := BB8.out.cell 3
  go_wp2_with fail
  refine (clone_any v l w8 ROW8.out HB.out.fit).mono ?_
  rintro x w9 ⟨⟨v2, rfl, hown⟩, b9⟩
  rw [Z8.out] at hown
  have O9 := Lib.hid hown
  have BB9 := Lib.hid (BB8.out.below b9 BB8.out.lt)
  have B9 := Lib.hid b9
  clear hown b9 c3
  go_wp2_with fail
  refine leaves_cons (f := 47) (args := #[.pointer (some ⟨b, 0, none⟩)]) (by simp) (by simp [go_sem]) ?_
  refine (unlock_deferred Tryd.muLib ⟨b, 0, none⟩ .returning _ (BB9.out.cell 0) (BB9.out.frozen 0)).mono ?_
  rintro x u' w'' ⟨rfl, rfl, rfl⟩
  have hJ : Just b w (w9.setCell ⟨b, 0, none⟩ (.int .i32 0)) := (J8.out.trans (Just.of B9.out (Nat.le_refl _))).trans (Just.set b 0 w9 (.int .i32 0))
  have hblk : Blk (w9.setCell ⟨b, 0, none⟩ (.int .i32 0)) b tB (bokC l.length v) := BB9.out.set 0 (.int .i32 0)
  refine ⟨_, results_tmp rfl _ _ _, ⟨⟨_, rfl, ?_⟩, hJ.full (hblk.trans HB.out.blk.symm)⟩⟩
  have hbl := HB.out.blk.lt
  refine row_kept O9.out (fun g hg => ?_)
  have hgl := World.ownsRow.lt O9.out g hg
  exact (Just.set b 0 w9 (.int .i32 0)).block g hgl.2 (fun h => by injection h with h; omega)
end Go.Proofs.YtfgaiopkclogmaaDoor
