/- Contracts of the document's Strong and Alike, of the law's way from one tag to the other, of its comparison of lists. -/
import Derived.Test.YtjalfddedikibaaDoorTagUJ
namespace Go.Proofs.YtjalfddedikibaaDoor
open Go Go.RowKit Go.Sort
set_option maxHeartbeats 4000000

set_option maxRecDepth 100000 in
theorem ref_any (t : Tg) (w : World) : Calls Tryd.prog 11 #[encT t] w fun e w' => e = .returned (encT t) ∧ ∃ q os, w' = Sort.grow (w.drewN q) os := by
  obtain ⟨t1, t2⟩ := t
  obtain ⟨X, hX⟩ := name_it (bs t2)
  unfold encT
  simp only [hX.out]
  go_enter Tryd.func11, Tryd.ntmps11
  go_wp2_with fail
  refine bodyPost_ret (v := .agg #[.bool t1, .string X]) (by simp [results, Tryd.results11, go_sem]) rfl ⟨rfl, grow_two _ _ _⟩

set_option maxRecDepth 100000 in
theorem rstrong_any (a b : Tg) (w : World) : Calls Tryd.prog 21 #[encT a, encT b] w fun e w' => e = .returned (.bool (strongT a b)) ∧ ∃ q os, w' = Sort.grow (w.drewN q) os := by
  obtain ⟨a1, a2⟩ := a
  obtain ⟨b1, b2⟩ := b
  obtain ⟨X, hX⟩ := name_it (bs a2)
  obtain ⟨Y, hY⟩ := name_it (bs b2)
  have hxy : (X.toList == Y.toList) = decide (a2 = b2) := by rw [← hX.out, ← hY.out, str_eq, L_bs, L_bs]
  have HXY := Lib.hid hxy
  unfold encT strongT
  simp only [hX.out, hY.out]
  clear hxy
  cases a1 <;> cases b1
  all_goals
    go_enter Tryd.func21, Tryd.ntmps21
    go_wp2_with fail
    go_ret
    refine ⟨ret_bool ?_, grow_two _ _ _⟩
    simp [HXY.out]

theorem ralike_any (a b : Tg) (w : World) : Calls Tryd.prog 23 #[encT a, encT b] w fun e w' => e = .returned (.bool (alikeT a b)) ∧ ∃ q os, w' = Sort.grow (w.drewN q) os := by
  obtain ⟨a1, a2⟩ := a
  obtain ⟨b1, b2⟩ := b
  obtain ⟨X, hX⟩ := name_it (bs a2)
  obtain ⟨Y, hY⟩ := name_it (bs b2)
  have hxy : (X.toList == Y.toList) = decide (a2 = b2) := by rw [← hX.out, ← hY.out, str_eq, L_bs, L_bs]
  have HXY := Lib.hid hxy
  unfold encT alikeT
  simp only [hX.out, hY.out]
  clear hxy
  cases a1 <;> cases b1
  all_goals
    go_enter Tryd.func23, Tryd.ntmps23
    go_wp2_with fail
    go_ret
    refine ⟨ret_bool ?_, grow_two _ _ _⟩
    simp [HXY.out]

set_option maxRecDepth 100000 in
theorem right_any (t : Tg) (w : World) (hs : t.2.length ≤ 1073741824) : Calls Tryd.prog 24 #[encT t] w fun e w' => e = .returned (.bool (goodT t)) ∧ Below w.heap.size w w' := by
  have RF := Lib.hid (fun wx => ref_any t wx)
  have PR := Lib.hid (fun wx => rtprint_any t.1 (bs t.2) wx (by rw [size_bs]; exact hs))
  rw [L_bs] at PR
  obtain ⟨t1, t2⟩ := t
  obtain ⟨X, hX⟩ := name_it (bs t2)
  unfold encT at RF ⊢
  simp only [hX.out] at RF PR ⊢
  have BX : Hid (Below w.heap.size w (w.alloc (.cells #[.bool t1, .string X] tT))) := (Below.refl _ _).alloc (Nat.le_refl _) _
  cases hg : goodT (t1, t2) with
  | true =>
    rw [prV_yes hg] at PR
    obtain ⟨S, hS⟩ := name_it (bs (printL (t1, t2)))
    rw [hS.out] at PR
    clear hg hS hX hs
    go_enter Tryd.func24, Tryd.ntmps24
    go_wp2_with fail
    refine (RF.out _).mono ?_; rintro e w1 ⟨rfl, q1, os1, h1⟩
    have B1 : Hid (Below w.heap.size w w1) := BX.out.trans (by rw [h1]; exact (below_grow q1 os1).mono BX.out.size)
    clear h1
    go_wp2_with fail
    refine (PR.out _).mono ?_; rintro e w2 ⟨rfl, b2⟩
    have B2 := Lib.hid (B1.out.trans (b2.mono B1.out.size))
    clear b2
    go_wp2_with fail
    go_ret
    exact ⟨rfl, B2.out⟩
  | false =>
    rw [prV_no hg] at PR
    clear hg hX hs
    go_enter Tryd.func24, Tryd.ntmps24
    go_wp2_with fail
    refine (RF.out _).mono ?_; rintro e w1 ⟨rfl, q1, os1, h1⟩
    have B1 : Hid (Below w.heap.size w w1) := BX.out.trans (by rw [h1]; exact (below_grow q1 os1).mono BX.out.size)
    clear h1
    go_wp2_with fail
    refine (PR.out _).mono ?_; rintro e w2 ⟨rfl, b2⟩
    have B2 := Lib.hid (B1.out.trans (b2.mono B1.out.size))
    clear b2
    go_wp2_with fail
    go_ret
    exact ⟨rfl, B2.out⟩

set_option maxRecDepth 100000 in
theorem sameTg_any (B1 B2 : Nat) (v1 v2 : Value) (ts : List Tg) (w : World) (h1 : w.ownsRow B1 tT 2 v1 ts.length (rowTg ts)) (h2 : w.ownsRow B2 tRT 2 v2 ts.length (rowTg ts)) (hl : ts.length ≤ 1073741824) :
    Calls Tryd.prog 14 #[v1, v2] w fun e w' => e = .returned (.bool true) ∧ Below w.heap.size w w' := by
  obtain ⟨p1, c1, rfl⟩ := row_slice h1
  obtain ⟨p2, c2, rfl⟩ := row_slice h2
  have O1 := Lib.hid h1
  have O2 := Lib.hid h2
  have B0 : Hid (Below w.heap.size w w) := Below.refl _ _
  clear h1 h2
  go_enter Tryd.func14, Tryd.ntmps14
  go_wp2_with fail
  all_goals (try (exfalso; omega))
  go_loopw [5, 13] (fun _ i wr => ∃ k : Nat, k ≤ ts.length ∧ i = .int .i64 k ∧ Hid (Below w.heap.size w wr)) (fun _ i _ => ts.length - (intOf i).toNat)
  case atStart => exact ⟨0, Nat.zero_le _, rfl, B0⟩
  clear B0
  case round =>
    obtain ⟨k, hk, rfl, hB⟩ := hrel
    obtain ⟨wq, hwq⟩ : ∃ wq, wq = wr := ⟨wr, rfl⟩
    subst hwq
    by_cases hlt : k < ts.length
    · have q0 : (0 : Int) ≤ (k : Int) := by omega
      have q1 : (k : Int) < (ts.length : Int) := by omega
      obtain ⟨g1, rfl⟩ : ∃ g, p1 = some ⟨g, 0, none⟩ := by
        rcases O1.out.2 with ⟨_, h0⟩ | ⟨g, cap', cur, h, _⟩
        · omega
        · injection h with h _ _; exact ⟨g, h⟩
      obtain ⟨g2, rfl⟩ : ∃ g, p2 = some ⟨g, 0, none⟩ := by
        rcases O2.out.2 with ⟨_, h0⟩ | ⟨g, cap', cur, h, _⟩
        · omega
        · injection h with h _ _; exact ⟨g, h⟩
      have hg1 := (World.ownsRow.lt O1.out g1 rfl).2
      have hg2 := (World.ownsRow.lt O2.out g2 rfl).2
      have hs1 : g1 < wq.heap.size := Nat.lt_of_lt_of_le hg1 hB.out.size
      have hs2 : g2 < wq.heap.size := Nat.lt_of_lt_of_le hg2 hB.out.size
      have a1 : wq.cell? ⟨g1, k * 2, none⟩ = some (.bool ts[k].1) := (hB.out.cell (p := ⟨g1, k * 2, none⟩) hg1).trans ((O1.out.cellAt (k * 2) (by omega)).trans (rowTg_get ts k hlt).1)
      have a2 : wq.cell? ⟨g1, k * 2 + 1, none⟩ = some (.string (bs ts[k].2)) := (hB.out.cell (p := ⟨g1, k * 2 + 1, none⟩) hg1).trans ((O1.out.cellAt (k * 2 + 1) (by omega)).trans (rowTg_get ts k hlt).2)
      have b1 : wq.cell? ⟨g2, k * 2, none⟩ = some (.bool ts[k].1) := (hB.out.cell (p := ⟨g2, k * 2, none⟩) hg2).trans ((O2.out.cellAt (k * 2) (by omega)).trans (rowTg_get ts k hlt).1)
      have b2 : wq.cell? ⟨g2, k * 2 + 1, none⟩ = some (.string (bs ts[k].2)) := (hB.out.cell (p := ⟨g2, k * 2 + 1, none⟩) hg2).trans ((O2.out.cellAt (k * 2 + 1) (by omega)).trans (rowTg_get ts k hlt).2)
      have RF := Lib.hid (fun wx => ref_any ts[k] wx)
      obtain ⟨⟨t1, t2⟩, ht⟩ := name_it ts[k]
      rw [ht.out] at a1 a2 b1 b2 RF
      unfold encT at RF
      simp only at a1 a2 b1 b2 RF
      obtain ⟨X, hX⟩ := name_it (bs t2)
      rw [hX.out] at a2 b2 RF
      clear ht hX
      have mixed : Tryd.prog.follows .mixedOrders = true := by kernel_rfl
      go_wp2_with fail
      all_goals (try (exfalso; omega))
      have x1 : ∀ n os, (Sort.grow (wq.drewN n) os).cell? ⟨g1, k * 2, none⟩ = some (.bool t1) := cell_grown (a := ⟨g1, k * 2, none⟩) hs1 a1
      have x2 : ∀ n os, (Sort.grow (wq.drewN n) os).cell? ⟨g1, k * 2 + 1, none⟩ = some (.string X) := cell_grown (a := ⟨g1, k * 2 + 1, none⟩) hs1 a2
      have y1 : ∀ n os, (Sort.grow (wq.drewN n) os).cell? ⟨g2, k * 2, none⟩ = some (.bool t1) := cell_grown (a := ⟨g2, k * 2, none⟩) hs2 b1
      have y2 : ∀ n os, (Sort.grow (wq.drewN n) os).cell? ⟨g2, k * 2 + 1, none⟩ = some (.string X) := cell_grown (a := ⟨g2, k * 2 + 1, none⟩) hs2 b2
      clear a1 a2 b1 b2
      refine wp_region_quiet_grown (by assumption) (by kernel_rfl) ?_
      repeat (go_big_quiet_step ((go_at_call 11; exact (RF.out _).grown_of)))
      refine wpQuiet_nil ?_
      intro _ hw'
      obtain ⟨⟨nq, osq⟩, hw''⟩ := hw'
      subst hw''
      have B2 := Lib.hid (hB.out.trans ((below_grow (w := wq) nq osq).mono hB.out.size))
      obtain ⟨wE, hwE⟩ := name_it (Sort.grow (wq.drewN nq) osq)
      rw [hwE.out] at B2
      dsimp only
      rw [hwE.out]
      clear x1 x2 y1 y2 hwE hB
      go_wp2_with fail
      all_goals (try (exfalso; omega))
      go_roundw
      case rel => exact ⟨k + 1, by omega, by go_num, B2⟩
      case measure => simp [intOf] <;> omega
    · obtain rfl : k = ts.length := by omega
      go_wp2_with fail
      all_goals (try (exfalso; omega))
      go_ret
      exact ⟨rfl, hB.out⟩
end Go.Proofs.YtjalfddedikibaaDoor
