/- Contracts of the document's Strong and Alike, of the law's way from one tag to the other, of its comparison of lists. -/
import Derived.Test.YtjalfddedikibaaGreatDoorTagUJ
namespace Go.Proofs.YtjalfddedikibaaGreatDoor
open Go Go.RowKit Go.Sort
set_option maxHeartbeats 4000000

set_option maxRecDepth 100000 in
theorem ref_any (t : Tg) (w : World) : Calls Tryz.prog 15 #[encT t] w fun e w' => e = .returned (encT t) ∧ ∃ q os, w' = Sort.grow (w.drewN q) os := by
  obtain ⟨t1, t2⟩ := t
  obtain ⟨X, hX⟩ := name_it (bs t2)
  unfold encT
  simp only [hX.out]
  go_enter Tryz.func15, Tryz.ntmps15
  go_wp2_with fail
  refine bodyPost_ret (v := .agg #[.bool t1, .string X]) (by simp [results, Tryz.results15, go_sem]) rfl ⟨rfl, grow_two _ _ _⟩

set_option maxRecDepth 100000 in
theorem rstrong_any (a b : Tg) (w : World) : Calls Tryz.prog 33 #[encT a, encT b] w fun e w' => e = .returned (.bool (strongT a b)) ∧ ∃ q os, w' = Sort.grow (w.drewN q) os := by
  obtain ⟨a1, a2⟩ := a
  obtain ⟨b1, b2⟩ := b
  obtain ⟨X, hX⟩ := name_it (bs a2)
  obtain ⟨Y, hY⟩ := name_it (bs b2)
  have hxy : (X.toList == Y.toList) = decide (a2 = b2) := by rw [← hX.out, ← hY.out, str_eq, L_bs, L_bs]
  have HXY := Lib.hid hxy
  unfold encT strongT
  simp only [hX.out, hY.out]
  clear hxy
  cases a1 <;> cases b1
  all_goals
    go_enter Tryz.func33, Tryz.ntmps33
    go_wp2_with fail
    go_ret
    refine ⟨ret_bool ?_, grow_two _ _ _⟩
    simp [HXY.out]

theorem ralike_any (a b : Tg) (w : World) : Calls Tryz.prog 50 #[encT a, encT b] w fun e w' => e = .returned (.bool (alikeT a b)) ∧ ∃ q os, w' = Sort.grow (w.drewN q) os := by
  obtain ⟨a1, a2⟩ := a
  obtain ⟨b1, b2⟩ := b
  obtain ⟨X, hX⟩ := name_it (bs a2)
  obtain ⟨Y, hY⟩ := name_it (bs b2)
  have hxy : (X.toList == Y.toList) = decide (a2 = b2) := by rw [← hX.out, ← hY.out, str_eq, L_bs, L_bs]
  have HXY := Lib.hid hxy
  unfold encT alikeT
  simp only [hX.out, hY.out]
  clear hxy
  cases a1 <;> cases b1
  all_goals
    go_enter Tryz.func50, Tryz.ntmps50
    go_wp2_with fail
    go_ret
    refine ⟨ret_bool ?_, grow_two _ _ _⟩
    simp [HXY.out]

end Go.Proofs.YtjalfddedikibaaGreatDoor
