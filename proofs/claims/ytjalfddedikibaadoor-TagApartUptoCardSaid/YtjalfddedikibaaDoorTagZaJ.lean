/- TagApart, plain and its loop's parts: which fields are kept, that they decide alike. -/
import Derived.Test.YtjalfddedikibaaDoorTagFaJ
import Derived.Test.YtjalfddedikibaaDoorTagXJ
import Derived.Test.YtjalfddedikibaaDoorTagLJ
namespace Go.Proofs.YtjalfddedikibaaDoor
open Go Go.RowKit
set_option maxHeartbeats 4000000

theorem lowerB_idem (c : UInt8) : lowerB (lowerB c) = lowerB c := by
  unfold lowerB
  by_cases h : 65 ≤ c.toNat ∧ c.toNat ≤ 90
  · rw [if_pos h, if_neg]
    rw [u8_up h.1 h.2]; omega
  · rw [if_neg h, if_neg h]
theorem lower_idem (l : List UInt8) : lower (lower l) = lower l := by unfold lower; rw [List.map_map]; exact List.map_congr_left fun c _ => lowerB_idem c
/-- one of the four names -/
def mineB (nm : Tx) : Bool := decide (lower nm = lower nmIM) || (decide (lower nm = lower nmIN) || (decide (lower nm = lower nmIU) || decide (lower nm = lower nmID)))
def fewL (l : List Fd) : List Fd := (l.filter fun f => mineB f.1).map fun f => (lower f.1, f.2)
theorem few_take (l : List Fd) (k : Nat) (h : k < l.length) : fewL (l.take (k + 1)) = if mineB l[k].1 = true then fewL (l.take k) ++ [(lower l[k].1, l[k].2)] else fewL (l.take k) := by
  unfold fewL
  rw [List.take_succ_eq_append_getElem h, List.filter_append, List.map_append]
  by_cases he : mineB l[k].1 = true
  · rw [if_pos he, List.filter_cons_of_pos (by simpa using he)]; rfl
  · rw [if_neg he, List.filter_cons_of_neg (by simpa using he)]; simp
theorem few_len (l : List Fd) : (fewL l).length ≤ l.length := by unfold fewL; rw [List.length_map]; exact List.length_filter_le _ _
theorem few_sum (l : List Fd) : fSum (fewL l) ≤ fSum l := by
  induction l with
  | nil => exact Nat.le_refl _
  | cons f l ih =>
    unfold fewL fSum at ih ⊢
    by_cases he : mineB f.1 = true
    · rw [List.filter_cons_of_pos (by simpa using he), List.map_cons, List.map_cons, List.map_cons, List.sum_cons, List.sum_cons]; simp only [lower_length]; omega
    · rw [List.filter_cons_of_neg (by simpa using he), List.map_cons, List.sum_cons]; omega
theorem few_values (l : List Fd) (nm : Tx) (h : ∀ x : Tx, lower x = lower nm → mineB x = true) : valuesF (fewL l) nm = valuesF l nm := by
  induction l with
  | nil => rfl
  | cons f l ih =>
    unfold fewL valuesF at ih ⊢
    by_cases he : lower f.1 = lower nm
    · have hm := h f.1 he
      rw [List.filter_cons_of_pos (by simpa using hm), List.map_cons, List.filter_cons_of_pos (by simpa [lower_idem] using he), List.filter_cons_of_pos (by simpa using he), List.map_cons, List.map_cons, ih]
    · by_cases hm : mineB f.1 = true
      · rw [List.filter_cons_of_pos (by simpa using hm), List.map_cons, List.filter_cons_of_neg (by simpa [lower_idem] using he), List.filter_cons_of_neg (by simpa using he), ih]
      · rw [List.filter_cons_of_neg (by simpa using hm), List.filter_cons_of_neg (by simpa using he), ih]
theorem few_decide (rd : Bool) (s : Sta) (now : Int) (l : List Fd) : decideT rd s now (fewL l) = decideT rd s now l :=
  decide_of (few_values l nmIM fun x h => by unfold mineB; simp [h]) (few_values l nmIN fun x h => by unfold mineB; simp [h]) (few_values l nmIU fun x h => by unfold mineB; simp [h]) (few_values l nmID fun x h => by unfold mineB; simp [h])
theorem few_nil (rd : Bool) (s : Sta) (now : Int) (l : List Fd) (h : fewL l = []) : decideT rd s now l = 0 := by
  rw [← few_decide, h]; exact decide_nil _ _ _ _ rfl rfl rfl rfl

set_option maxRecDepth 100000 in
theorem mine_any (X : ByteArray) (w : World) (hs : X.size ≤ 1048576) : Calls Tryd.prog 16 #[.string X] w fun e w' => e = .returned (.bool (mineB (L X))) ∧ Below w.heap.size w w' := by
  have S1 := Lib.hid (fun wx => rsame6_any X ⟨#[73, 102, 45, 77, 97, 116, 99, 104]⟩ wx (by unfold maxLen; omega) (by decide))
  have S2 := Lib.hid (fun wx => rsame6_any X ⟨#[73, 102, 45, 78, 111, 110, 101, 45, 77, 97, 116, 99, 104]⟩ wx (by unfold maxLen; omega) (by decide))
  have S3 := Lib.hid (fun wx => rsame6_any X ⟨#[73, 102, 45, 85, 110, 109, 111, 100, 105, 102, 105, 101, 100, 45, 83, 105, 110, 99, 101]⟩ wx (by unfold maxLen; omega) (by decide))
  have S4 := Lib.hid (fun wx => rsame6_any X ⟨#[73, 102, 45, 77, 111, 100, 105, 102, 105, 101, 100, 45, 83, 105, 110, 99, 101]⟩ wx (by unfold maxLen; omega) (by decide))
  have e1 : L ⟨#[73, 102, 45, 77, 97, 116, 99, 104]⟩ = nmIM := rfl
  have e2 : L ⟨#[73, 102, 45, 78, 111, 110, 101, 45, 77, 97, 116, 99, 104]⟩ = nmIN := rfl
  have e3 : L ⟨#[73, 102, 45, 85, 110, 109, 111, 100, 105, 102, 105, 101, 100, 45, 83, 105, 110, 99, 101]⟩ = nmIU := rfl
  have e4 : L ⟨#[73, 102, 45, 77, 111, 100, 105, 102, 105, 101, 100, 45, 83, 105, 110, 99, 101]⟩ = nmID := rfl
  rw [e1] at S1
  rw [e2] at S2
  rw [e3] at S3
  rw [e4] at S4
  have HM : Hid (mineB (L X) = (decide (lower (L X) = lower nmIM) || (decide (lower (L X) = lower nmIN) || (decide (lower (L X) = lower nmIU) || decide (lower (L X) = lower nmID))))) := rfl
  obtain ⟨b1, h1⟩ := name_it (decide (lower (L X) = lower nmIM))
  rw [h1.out] at S1 HM
  obtain ⟨b2, h2⟩ := name_it (decide (lower (L X) = lower nmIN))
  rw [h2.out] at S2 HM
  obtain ⟨b3, h3⟩ := name_it (decide (lower (L X) = lower nmIU))
  rw [h3.out] at S3 HM
  obtain ⟨b4, h4⟩ := name_it (decide (lower (L X) = lower nmID))
  rw [h4.out] at S4 HM
  obtain ⟨R, hR⟩ := name_it (mineB (L X))
  rw [hR.out] at HM ⊢
  clear e1 e2 e3 e4 h1 h2 h3 h4 hR hs
  have G0 : Hid (Blk (w.alloc (.cells #[.string ⟨#[73, 102, 45, 77, 97, 116, 99, 104]⟩, .string ⟨#[73, 102, 45, 78, 111, 110, 101, 45, 77, 97, 116, 99, 104]⟩, .string ⟨#[73, 102, 45, 85, 110, 109, 111, 100, 105, 102, 105, 101, 100, 45, 83, 105, 110, 99, 101]⟩, .string ⟨#[73, 102, 45, 77, 111, 100, 105, 102, 105, 101, 100, 45, 83, 105, 110, 99, 101]⟩] tS)) w.heap.size tS #[.string ⟨#[73, 102, 45, 77, 97, 116, 99, 104]⟩, .string ⟨#[73, 102, 45, 78, 111, 110, 101, 45, 77, 97, 116, 99, 104]⟩, .string ⟨#[73, 102, 45, 85, 110, 109, 111, 100, 105, 102, 105, 101, 100, 45, 83, 105, 110, 99, 101]⟩, .string ⟨#[73, 102, 45, 77, 111, 100, 105, 102, 105, 101, 100, 45, 83, 105, 110, 99, 101]⟩]) := Blk.new w tS _
  have B0 : Hid (Below w.heap.size w (w.alloc (.cells #[.string ⟨#[73, 102, 45, 77, 97, 116, 99, 104]⟩, .string ⟨#[73, 102, 45, 78, 111, 110, 101, 45, 77, 97, 116, 99, 104]⟩, .string ⟨#[73, 102, 45, 85, 110, 109, 111, 100, 105, 102, 105, 101, 100, 45, 83, 105, 110, 99, 101]⟩, .string ⟨#[73, 102, 45, 77, 111, 100, 105, 102, 105, 101, 100, 45, 83, 105, 110, 99, 101]⟩] tS))) := (Below.refl _ _).alloc (Nat.le_refl _) _
  go_enter Tryd.func16, Tryd.ntmps16
  go_wp2_with fail
  obtain ⟨w0, hw0⟩ := name_it (w.alloc (.cells #[.string ⟨#[73, 102, 45, 77, 97, 116, 99, 104]⟩, .string ⟨#[73, 102, 45, 78, 111, 110, 101, 45, 77, 97, 116, 99, 104]⟩, .string ⟨#[73, 102, 45, 85, 110, 109, 111, 100, 105, 102, 105, 101, 100, 45, 83, 105, 110, 99, 101]⟩, .string ⟨#[73, 102, 45, 77, 111, 100, 105, 102, 105, 101, 100, 45, 83, 105, 110, 99, 101]⟩] tS))
  rw [hw0.out] at G0 B0 ⊢
  obtain ⟨g, hg⟩ := name_it w.heap.size
  rw [hg.out] at G0 ⊢
  clear hw0
  refine wp_loop_rounds 5 ?_
  rw [rounds_succ]
  have c0 : w0.cell? ⟨g, 0, none⟩ = some (.string ⟨#[73, 102, 45, 77, 97, 116, 99, 104]⟩) := G0.out.cell 0
  go_wp2_with fail
  all_goals (try (exfalso; omega))
  refine (S1.out _).mono ?_; rintro e w1 ⟨rfl, d1⟩
  have G1 := Lib.hid (G0.out.below d1 G0.out.lt)
  have B1 : Hid (Below w.heap.size w w1) := B0.out.trans (d1.mono B0.out.size)
  clear d1 c0 G0 B0 S1
  cases b1
  rotate_left
  · go_wp2_with fail
    go_ret
    exact ⟨ret_bool (by rw [HM.out]; rfl), by first | exact B1.out | (rw [← hg.out]; exact B1.out)⟩
  go_wp2_with fail
  all_goals (try (exfalso; omega))
  rw [rounds_succ]
  have c1 : w1.cell? ⟨g, 1, none⟩ = some (.string ⟨#[73, 102, 45, 78, 111, 110, 101, 45, 77, 97, 116, 99, 104]⟩) := G1.out.cell 1
  go_wp2_with fail
  all_goals (try (exfalso; omega))
  refine (S2.out _).mono ?_; rintro e w2 ⟨rfl, d2⟩
  have G2 := Lib.hid (G1.out.below d2 G1.out.lt)
  have B2 : Hid (Below w.heap.size w w2) := B1.out.trans (d2.mono B1.out.size)
  clear d2 c1 G1 B1 S2
  cases b2
  rotate_left
  · go_wp2_with fail
    go_ret
    exact ⟨ret_bool (by rw [HM.out]; rfl), by first | exact B2.out | (rw [← hg.out]; exact B2.out)⟩
  go_wp2_with fail
  all_goals (try (exfalso; omega))
  rw [rounds_succ]
  have c2 : w2.cell? ⟨g, 2, none⟩ = some (.string ⟨#[73, 102, 45, 85, 110, 109, 111, 100, 105, 102, 105, 101, 100, 45, 83, 105, 110, 99, 101]⟩) := G2.out.cell 2
  go_wp2_with fail
  all_goals (try (exfalso; omega))
  refine (S3.out _).mono ?_; rintro e w3 ⟨rfl, d3⟩
  have G3 := Lib.hid (G2.out.below d3 G2.out.lt)
  have B3 : Hid (Below w.heap.size w w3) := B2.out.trans (d3.mono B2.out.size)
  clear d3 c2 G2 B2 S3
  cases b3
  rotate_left
  · go_wp2_with fail
    go_ret
    exact ⟨ret_bool (by rw [HM.out]; rfl), by first | exact B3.out | (rw [← hg.out]; exact B3.out)⟩
  go_wp2_with fail
  all_goals (try (exfalso; omega))
  rw [rounds_succ]
  have c3 : w3.cell? ⟨g, 3, none⟩ = some (.string ⟨#[73, 102, 45, 77, 111, 100, 105, 102, 105, 101, 100, 45, 83, 105, 110, 99, 101]⟩) := G3.out.cell 3
  go_wp2_with fail
  all_goals (try (exfalso; omega))
  refine (S4.out _).mono ?_; rintro e w4 ⟨rfl, d4⟩
  have G4 := Lib.hid (G3.out.below d4 G3.out.lt)
  have B4 : Hid (Below w.heap.size w w4) := B3.out.trans (d4.mono B3.out.size)
  clear d4 c3 G3 B3 S4
  cases b4
  rotate_left
  · go_wp2_with fail
    go_ret
    exact ⟨ret_bool (by rw [HM.out]; rfl), by first | exact B4.out | (rw [← hg.out]; exact B4.out)⟩
  go_wp2_with fail
  all_goals (try (exfalso; omega))
  rw [rounds_succ]
  go_wp2_with fail
  all_goals (try (exfalso; omega))
  go_ret
  exact ⟨ret_bool (by rw [HM.out]; rfl), by first | exact B4.out | (rw [← hg.out]; exact B4.out)⟩
end Go.Proofs.YtjalfddedikibaaDoor
