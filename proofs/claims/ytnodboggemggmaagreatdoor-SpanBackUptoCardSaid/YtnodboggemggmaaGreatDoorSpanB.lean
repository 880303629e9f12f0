/- Contracts of span: one element of a range header (program and reference). -/
import Derived.Test.YtnodboggemggmaaGreatDoorSpanA
namespace Go.Proofs.YtnodboggemggmaaGreatDoor
open Go Go.RowKit
set_option maxHeartbeats 2000000

def elemO (l : List UInt8) (size : Int) : Option (Int × Int × Bool) :=
  match idx 45 l with
  | none => none
  | some i =>
    if l.take i = [] then (if numB (l.drop (i + 1)) = true then some ((if size - numN (l.drop (i + 1)) < 0 then 0 else size - numN (l.drop (i + 1))), size, decide (0 < numN (l.drop (i + 1)) ∧ 0 < size)) else none)
    else if numB (l.take i) = false then none
    else if l.drop (i + 1) = [] then some (numN (l.take i), size, decide (numN (l.take i) < size))
    else if numB (l.drop (i + 1)) = true ∧ numN (l.take i) ≤ numN (l.drop (i + 1)) then some (numN (l.take i), (if numN (l.drop (i + 1)) < size then numN (l.drop (i + 1)) + 1 else size), decide (numN (l.take i) < size)) else none
def spanV (a b : Int) : Value := .agg #[.int .i64 a, .int .i64 b]
def elemV (o : Option (Int × Int × Bool)) : Value := match o with
  | none => .tuple #[.agg #[.int .i64 0, .int .i64 0], .bool false, .bool false]
  | some (a, b, m) => .tuple #[.agg #[.int .i64 a, .int .i64 b], .bool m, .bool true]

set_option maxRecDepth 100000 in
theorem element_any (s : ByteArray) (size : Int) (w : World) (hE : Env w) (hs : s.size ≤ 4000000000) (z0 : 0 ≤ size) (z1 : size ≤ 9223372036854775807) :
    Calls Tryz.prog 15 #[.string s, .int .i64 size] w fun e w' => e = .returned (elemV (elemO (L s) size)) ∧ Below w.heap.size w w' := by
  obtain ⟨V, hV⟩ := name_it (elemV (elemO (L s) size))
  rw [hV.out]
  have hEa := Lib.hid (hE.alloc (.cells #[.int .i64 0, .int .i64 0] 38))
  have hLs := L_length s
  cases hidx : idx 45 (L s) with
  | none =>
    have hv : Hid (V = elemV none) := by
      unfold Hid; rw [← hV.out]; unfold elemO; rw [hidx]
    have hI := Lib.hid hidx; clear hidx
    go_enter Tryz.func15, Tryz.ntmps15
    go_wp2_with fail
    refine (cut_any 45 s _ hEa.out hs).mono ?_; rintro e w1 ⟨rfl, hb1⟩
    rw [hI.out]
    obtain ⟨f1, f2, f3, f4⟩ := box_facts hb1
    have hB1 := Lib.hid hb1; clear hb1
    go_wp2_with fail
    refine bodyPost_ret (v := .tuple #[.agg #[.int .i64 0, .int .i64 0], .bool false, .bool false]) ?_ rfl ⟨by rw [hv.out]; rfl, ?_⟩
    · simp [results, Tryz.results15, go_sem, f1] <;> omega
    · exact (f4.setCell (p := ⟨_, 0, none⟩) (Nat.le_refl _) _).setCell (p := ⟨_, 1, none⟩) (Nat.le_refl _) _
  | some i =>
    have hil := idx_lt hidx
    obtain ⟨a, ha⟩ := name_it ((L s).take i)
    obtain ⟨b, hb⟩ := name_it ((L s).drop (i + 1))
    have hA : Hid (cutA 45 (L s) = a) := by unfold Hid cutA; rw [hidx]; exact ha.out
    have hZ : Hid (cutZ 45 (L s) = b) := by unfold Hid cutZ; rw [hidx]; exact hb.out
    have hS : Hid ((idx 45 (L s)).isSome = true) := by unfold Hid; rw [hidx]; rfl
    have hal : a.length ≤ s.size := by rw [← ha.out, List.length_take]; omega
    have hbl : b.length ≤ s.size := by rw [← hb.out, List.length_drop]; omega
    have hv : Hid (V = elemV (if a = [] then (if numB b = true then some ((if size - numN b < 0 then 0 else size - numN b), size, decide (0 < numN b ∧ 0 < size)) else none)
      else if numB a = false then none
      else if b = [] then some (numN a, size, decide (numN a < size))
      else if numB b = true ∧ numN a ≤ numN b then some (numN a, (if numN b < size then numN b + 1 else size), decide (numN a < size)) else none)) := by
      unfold Hid; rw [← hV.out]; unfold elemO; rw [hidx]; simp only [ha.out, hb.out]
    obtain ⟨na, hna⟩ := name_it (numN a)
    obtain ⟨nb, hnb⟩ := name_it (numN b)
    obtain ⟨fa, hfa⟩ := name_it (numB a)
    obtain ⟨fb, hfb⟩ := name_it (numB b)
    have ba := numN_bd a
    have bb := numN_bd b
    rw [hna.out] at ba hv
    rw [hnb.out] at bb hv
    rw [hfa.out, hfb.out] at hv
    have hfa0 : a = [] → fa = false := fun h => by rw [← hfa.out, h]; exact numB_nil
    have hfb0 : b = [] → fb = false := fun h => by rw [← hfb.out, h]; exact numB_nil
    clear ha hb hidx hil hV
    have hcases : (a = [] ∧ fa = false ∧ fb = true) ∨ (a = [] ∧ fa = false ∧ fb = false) ∨ (a ≠ [] ∧ fa = false) ∨ (a ≠ [] ∧ fa = true ∧ b = [] ∧ fb = false) ∨ (a ≠ [] ∧ fa = true ∧ b ≠ [] ∧ fb = true) ∨ (a ≠ [] ∧ fa = true ∧ b ≠ [] ∧ fb = false) := by
      cases hfa1 : fa <;> cases hfb1 : fb <;> by_cases ha1 : a = [] <;> by_cases hb1 : b = [] <;> simp_all
    clear hfa0 hfb0
    rcases hcases with ⟨h1, h2, h4⟩ | ⟨h1, h2, h4⟩ | ⟨h1, h2⟩ | ⟨h1, h2, h3, h4⟩ | ⟨h1, h2, h3, h4⟩ | ⟨h1, h2, h3, h4⟩
    · have ea : (bs a).toList = [] := by rw [toList_L, L_bs]; exact h1
      have ea2 : (bs a).toList.isEmpty = true := by rw [toList_L, L_bs, h1]; rfl
      have hw : Hid (V = elemV (some ((if size - nb < 0 then 0 else size - nb), size, decide (0 < nb ∧ 0 < size)))) := by
        unfold Hid; rw [hv.out, if_pos h1, if_pos h4]
      clear hv
      have H1 := Lib.hid h1; clear h1
      subst h2; subst h4
      by_cases hp : 0 < nb
      · by_cases hm : size - nb < 0
        · go_enter Tryz.func15, Tryz.ntmps15
          go_wp2_with fail
          refine (cut_any 45 s _ hEa.out hs).mono ?_; rintro e w1 ⟨rfl, hb1⟩
          rw [hA.out, hZ.out, hS.out]
          go_wp2_with fail
          refine (snum_any (bs a) _ (by rw [size_bs]; unfold maxLen; omega)).mono ?_; rintro e w2 ⟨rfl, hb2⟩
          rw [L_bs, hna.out, hfa.out]
          go_wp2_with fail
          refine (snum_any (bs b) _ (by rw [size_bs]; unfold maxLen; omega)).mono ?_; rintro e w3 ⟨rfl, hb3⟩
          rw [L_bs, hnb.out, hfb.out]
          have hb13 := hb1.trans ((hb2.trans (hb3.mono hb2.size)).mono hb1.size)
          obtain ⟨f1, f2, f3, f4⟩ := box_facts hb13
          clear hb1 hb2 hb3 hb13
          go_wp2_with fail
          all_goals (try (exfalso; omega))
          refine bodyPost_ret (v := .tuple #[.agg #[.int .i64 (0), .int .i64 (size)], .bool (decide (0 < size)), .bool true]) ?_ rfl ⟨by rw [hw.out]; simp [elemV, hp, hm] <;> omega, ?_⟩
          · simp [results, Tryz.results15, go_sem, f1] <;> omega
          · exact (f4.setCell (p := ⟨_, 0, none⟩) (Nat.le_refl _) _).setCell (p := ⟨_, 1, none⟩) (Nat.le_refl _) _
        · go_enter Tryz.func15, Tryz.ntmps15
          go_wp2_with fail
          refine (cut_any 45 s _ hEa.out hs).mono ?_; rintro e w1 ⟨rfl, hb1⟩
          rw [hA.out, hZ.out, hS.out]
          go_wp2_with fail
          refine (snum_any (bs a) _ (by rw [size_bs]; unfold maxLen; omega)).mono ?_; rintro e w2 ⟨rfl, hb2⟩
          rw [L_bs, hna.out, hfa.out]
          go_wp2_with fail
          refine (snum_any (bs b) _ (by rw [size_bs]; unfold maxLen; omega)).mono ?_; rintro e w3 ⟨rfl, hb3⟩
          rw [L_bs, hnb.out, hfb.out]
          have hb13 := hb1.trans ((hb2.trans (hb3.mono hb2.size)).mono hb1.size)
          obtain ⟨f1, f2, f3, f4⟩ := box_facts hb13
          clear hb1 hb2 hb3 hb13
          go_wp2_with fail
          all_goals (try (exfalso; omega))
          refine bodyPost_ret (v := .tuple #[.agg #[.int .i64 (size - nb), .int .i64 (size)], .bool (decide (0 < size)), .bool true]) ?_ rfl ⟨by rw [hw.out]; simp [elemV, hp] <;> omega, ?_⟩
          · simp [results, Tryz.results15, go_sem, f1] <;> omega
          · exact (f4.setCell (p := ⟨_, 0, none⟩) (Nat.le_refl _) _).setCell (p := ⟨_, 1, none⟩) (Nat.le_refl _) _
      · obtain rfl : nb = 0 := by omega
        go_enter Tryz.func15, Tryz.ntmps15
        go_wp2_with fail
        refine (cut_any 45 s _ hEa.out hs).mono ?_; rintro e w1 ⟨rfl, hb1⟩
        rw [hA.out, hZ.out, hS.out]
        go_wp2_with fail
        refine (snum_any (bs a) _ (by rw [size_bs]; unfold maxLen; omega)).mono ?_; rintro e w2 ⟨rfl, hb2⟩
        rw [L_bs, hna.out, hfa.out]
        go_wp2_with fail
        refine (snum_any (bs b) _ (by rw [size_bs]; unfold maxLen; omega)).mono ?_; rintro e w3 ⟨rfl, hb3⟩
        rw [L_bs, hnb.out, hfb.out]
        have hb13 := hb1.trans ((hb2.trans (hb3.mono hb2.size)).mono hb1.size)
        obtain ⟨f1, f2, f3, f4⟩ := box_facts hb13
        clear hb1 hb2 hb3 hb13
        go_wp2_with fail
        all_goals (try (exfalso; omega))
        refine bodyPost_ret (v := .tuple #[.agg #[.int .i64 (size), .int .i64 (size)], .bool false, .bool true]) ?_ rfl ⟨by rw [hw.out]; simp [elemV]; omega, ?_⟩
        · simp [results, Tryz.results15, go_sem, f1] <;> omega
        · exact (f4.setCell (p := ⟨_, 0, none⟩) (Nat.le_refl _) _).setCell (p := ⟨_, 1, none⟩) (Nat.le_refl _) _
    · have ea : (bs a).toList = [] := by rw [toList_L, L_bs]; exact h1
      have ea2 : (bs a).toList.isEmpty = true := by rw [toList_L, L_bs, h1]; rfl
      have hw : Hid (V = elemV none) := by
        unfold Hid; rw [hv.out, if_pos h1, if_neg (by rw [h4]; simp)]
      clear hv
      have H1 := Lib.hid h1; clear h1
      subst h2; subst h4
      go_enter Tryz.func15, Tryz.ntmps15
      go_wp2_with fail
      refine (cut_any 45 s _ hEa.out hs).mono ?_; rintro e w1 ⟨rfl, hb1⟩
      rw [hA.out, hZ.out, hS.out]
      go_wp2_with fail
      refine (snum_any (bs a) _ (by rw [size_bs]; unfold maxLen; omega)).mono ?_; rintro e w2 ⟨rfl, hb2⟩
      rw [L_bs, hna.out, hfa.out]
      go_wp2_with fail
      refine (snum_any (bs b) _ (by rw [size_bs]; unfold maxLen; omega)).mono ?_; rintro e w3 ⟨rfl, hb3⟩
      rw [L_bs, hnb.out, hfb.out]
      have hb13 := hb1.trans ((hb2.trans (hb3.mono hb2.size)).mono hb1.size)
      obtain ⟨f1, f2, f3, f4⟩ := box_facts hb13
      clear hb1 hb2 hb3 hb13
      go_wp2_with fail
      all_goals (try (exfalso; omega))
      refine bodyPost_ret (v := .tuple #[.agg #[.int .i64 (0), .int .i64 (0)], .bool false, .bool false]) ?_ rfl ⟨by rw [hw.out]; rfl, ?_⟩
      · simp [results, Tryz.results15, go_sem, f1] <;> omega
      · exact (f4.setCell (p := ⟨_, 0, none⟩) (Nat.le_refl _) _).setCell (p := ⟨_, 1, none⟩) (Nat.le_refl _) _
    · have ea : ¬ (bs a).toList = [] := by rw [toList_L, L_bs]; exact h1
      have ea2 : (bs a).toList.isEmpty = false := by rw [toList_L, L_bs]; cases a <;> simp_all
      have hw : Hid (V = elemV none) := by
        unfold Hid; rw [hv.out, if_neg h1, if_pos h2]
      clear hv
      have H1 := Lib.hid h1; clear h1
      subst h2
      go_enter Tryz.func15, Tryz.ntmps15
      go_wp2_with fail
      refine (cut_any 45 s _ hEa.out hs).mono ?_; rintro e w1 ⟨rfl, hb1⟩
      rw [hA.out, hZ.out, hS.out]
      go_wp2_with fail
      refine (snum_any (bs a) _ (by rw [size_bs]; unfold maxLen; omega)).mono ?_; rintro e w2 ⟨rfl, hb2⟩
      rw [L_bs, hna.out, hfa.out]
      go_wp2_with fail
      refine (snum_any (bs b) _ (by rw [size_bs]; unfold maxLen; omega)).mono ?_; rintro e w3 ⟨rfl, hb3⟩
      rw [L_bs, hnb.out, hfb.out]
      have hb13 := hb1.trans ((hb2.trans (hb3.mono hb2.size)).mono hb1.size)
      obtain ⟨f1, f2, f3, f4⟩ := box_facts hb13
      clear hb1 hb2 hb3 hb13
      go_wp2_with fail
      all_goals (try (exfalso; omega))
      refine bodyPost_ret (v := .tuple #[.agg #[.int .i64 (0), .int .i64 (0)], .bool false, .bool false]) ?_ rfl ⟨by rw [hw.out]; rfl, ?_⟩
      · simp [results, Tryz.results15, go_sem, f1] <;> omega
      · exact (f4.setCell (p := ⟨_, 0, none⟩) (Nat.le_refl _) _).setCell (p := ⟨_, 1, none⟩) (Nat.le_refl _) _
    · have ea : ¬ (bs a).toList = [] := by rw [toList_L, L_bs]; exact h1
      have ea2 : (bs a).toList.isEmpty = false := by rw [toList_L, L_bs]; cases a <;> simp_all
      have eb : (bs b).toList = [] := by rw [toList_L, L_bs]; exact h3
      have eb2 : (bs b).toList.isEmpty = true := by rw [toList_L, L_bs, h3]; rfl
      have hw : Hid (V = elemV (some (na, size, decide (na < size)))) := by
        unfold Hid; rw [hv.out, if_neg h1, if_neg (by rw [h2]; simp), if_pos h3]
      clear hv
      have H1 := Lib.hid h1; clear h1
      have H3 := Lib.hid h3; clear h3
      subst h2; subst h4
      go_enter Tryz.func15, Tryz.ntmps15
      go_wp2_with fail
      refine (cut_any 45 s _ hEa.out hs).mono ?_; rintro e w1 ⟨rfl, hb1⟩
      rw [hA.out, hZ.out, hS.out]
      go_wp2_with fail
      refine (snum_any (bs a) _ (by rw [size_bs]; unfold maxLen; omega)).mono ?_; rintro e w2 ⟨rfl, hb2⟩
      rw [L_bs, hna.out, hfa.out]
      go_wp2_with fail
      refine (snum_any (bs b) _ (by rw [size_bs]; unfold maxLen; omega)).mono ?_; rintro e w3 ⟨rfl, hb3⟩
      rw [L_bs, hnb.out, hfb.out]
      have hb13 := hb1.trans ((hb2.trans (hb3.mono hb2.size)).mono hb1.size)
      obtain ⟨f1, f2, f3, f4⟩ := box_facts hb13
      clear hb1 hb2 hb3 hb13
      go_wp2_with fail
      all_goals (try (exfalso; omega))
      refine bodyPost_ret (v := .tuple #[.agg #[.int .i64 (na), .int .i64 (size)], .bool (decide (na < size)), .bool true]) ?_ rfl ⟨by rw [hw.out]; rfl, ?_⟩
      · simp [results, Tryz.results15, go_sem, f1] <;> omega
      · exact (f4.setCell (p := ⟨_, 0, none⟩) (Nat.le_refl _) _).setCell (p := ⟨_, 1, none⟩) (Nat.le_refl _) _
    · have ea : ¬ (bs a).toList = [] := by rw [toList_L, L_bs]; exact h1
      have ea2 : (bs a).toList.isEmpty = false := by rw [toList_L, L_bs]; cases a <;> simp_all
      have eb : ¬ (bs b).toList = [] := by rw [toList_L, L_bs]; exact h3
      have eb2 : (bs b).toList.isEmpty = false := by rw [toList_L, L_bs]; cases b <;> simp_all
      have hv5 : Hid (V = elemV (if na ≤ nb then some (na, (if nb < size then nb + 1 else size), decide (na < size)) else none)) := by
        unfold Hid; rw [hv.out, if_neg h1, if_neg (by rw [h2]; simp), if_neg h3]; simp [h4]
      have H1 := Lib.hid h1; clear h1
      have H3 := Lib.hid h3; clear h3
      clear hv
      subst h2; subst h4
      by_cases hle : na ≤ nb
      · have hw : Hid (V = elemV (some (na, (if nb < size then nb + 1 else size), decide (na < size)))) := by
          unfold Hid; rw [hv5.out, if_pos hle]
        by_cases hsz : nb < size
        · go_enter Tryz.func15, Tryz.ntmps15
          go_wp2_with fail
          refine (cut_any 45 s _ hEa.out hs).mono ?_; rintro e w1 ⟨rfl, hb1⟩
          rw [hA.out, hZ.out, hS.out]
          go_wp2_with fail
          refine (snum_any (bs a) _ (by rw [size_bs]; unfold maxLen; omega)).mono ?_; rintro e w2 ⟨rfl, hb2⟩
          rw [L_bs, hna.out, hfa.out]
          go_wp2_with fail
          refine (snum_any (bs b) _ (by rw [size_bs]; unfold maxLen; omega)).mono ?_; rintro e w3 ⟨rfl, hb3⟩
          rw [L_bs, hnb.out, hfb.out]
          have hb13 := hb1.trans ((hb2.trans (hb3.mono hb2.size)).mono hb1.size)
          obtain ⟨f1, f2, f3, f4⟩ := box_facts hb13
          clear hb1 hb2 hb3 hb13
          go_wp2_with fail
          all_goals (try (exfalso; omega))
          refine bodyPost_ret (v := .tuple #[.agg #[.int .i64 (na), .int .i64 (nb + 1)], .bool (decide (na < size)), .bool true]) ?_ rfl ⟨by rw [hw.out]; simp [elemV, hsz] <;> omega, ?_⟩
          · simp [results, Tryz.results15, go_sem, f1] <;> omega
          · exact (f4.setCell (p := ⟨_, 0, none⟩) (Nat.le_refl _) _).setCell (p := ⟨_, 1, none⟩) (Nat.le_refl _) _
        · go_enter Tryz.func15, Tryz.ntmps15
          go_wp2_with fail
          refine (cut_any 45 s _ hEa.out hs).mono ?_; rintro e w1 ⟨rfl, hb1⟩
          rw [hA.out, hZ.out, hS.out]
          go_wp2_with fail
          refine (snum_any (bs a) _ (by rw [size_bs]; unfold maxLen; omega)).mono ?_; rintro e w2 ⟨rfl, hb2⟩
          rw [L_bs, hna.out, hfa.out]
          go_wp2_with fail
          refine (snum_any (bs b) _ (by rw [size_bs]; unfold maxLen; omega)).mono ?_; rintro e w3 ⟨rfl, hb3⟩
          rw [L_bs, hnb.out, hfb.out]
          have hb13 := hb1.trans ((hb2.trans (hb3.mono hb2.size)).mono hb1.size)
          obtain ⟨f1, f2, f3, f4⟩ := box_facts hb13
          clear hb1 hb2 hb3 hb13
          go_wp2_with fail
          all_goals (try (exfalso; omega))
          refine bodyPost_ret (v := .tuple #[.agg #[.int .i64 (na), .int .i64 (size)], .bool (decide (na < size)), .bool true]) ?_ rfl ⟨by rw [hw.out]; simp [elemV] <;> omega, ?_⟩
          · simp [results, Tryz.results15, go_sem, f1] <;> omega
          · exact (f4.setCell (p := ⟨_, 0, none⟩) (Nat.le_refl _) _).setCell (p := ⟨_, 1, none⟩) (Nat.le_refl _) _
      · have hw : Hid (V = elemV none) := by
          unfold Hid; rw [hv5.out, if_neg hle]
        go_enter Tryz.func15, Tryz.ntmps15
        go_wp2_with fail
        refine (cut_any 45 s _ hEa.out hs).mono ?_; rintro e w1 ⟨rfl, hb1⟩
        rw [hA.out, hZ.out, hS.out]
        go_wp2_with fail
        refine (snum_any (bs a) _ (by rw [size_bs]; unfold maxLen; omega)).mono ?_; rintro e w2 ⟨rfl, hb2⟩
        rw [L_bs, hna.out, hfa.out]
        go_wp2_with fail
        refine (snum_any (bs b) _ (by rw [size_bs]; unfold maxLen; omega)).mono ?_; rintro e w3 ⟨rfl, hb3⟩
        rw [L_bs, hnb.out, hfb.out]
        have hb13 := hb1.trans ((hb2.trans (hb3.mono hb2.size)).mono hb1.size)
        obtain ⟨f1, f2, f3, f4⟩ := box_facts hb13
        clear hb1 hb2 hb3 hb13
        go_wp2_with fail
        all_goals (try (exfalso; omega))
        refine bodyPost_ret (v := .tuple #[.agg #[.int .i64 (0), .int .i64 (0)], .bool false, .bool false]) ?_ rfl ⟨by rw [hw.out]; rfl, ?_⟩
        · simp [results, Tryz.results15, go_sem, f1] <;> omega
        · exact (f4.setCell (p := ⟨_, 0, none⟩) (Nat.le_refl _) _).setCell (p := ⟨_, 1, none⟩) (Nat.le_refl _) _
    · have ea : ¬ (bs a).toList = [] := by rw [toList_L, L_bs]; exact h1
      have ea2 : (bs a).toList.isEmpty = false := by rw [toList_L, L_bs]; cases a <;> simp_all
      have eb : ¬ (bs b).toList = [] := by rw [toList_L, L_bs]; exact h3
      have eb2 : (bs b).toList.isEmpty = false := by rw [toList_L, L_bs]; cases b <;> simp_all
      have hw : Hid (V = elemV none) := by
        unfold Hid; rw [hv.out, if_neg h1, if_neg (by rw [h2]; simp), if_neg h3]; simp [h4]
      clear hv
      have H1 := Lib.hid h1; clear h1
      have H3 := Lib.hid h3; clear h3
      subst h2; subst h4
      go_enter Tryz.func15, Tryz.ntmps15
      go_wp2_with fail
      refine (cut_any 45 s _ hEa.out hs).mono ?_; rintro e w1 ⟨rfl, hb1⟩
      rw [hA.out, hZ.out, hS.out]
      go_wp2_with fail
      refine (snum_any (bs a) _ (by rw [size_bs]; unfold maxLen; omega)).mono ?_; rintro e w2 ⟨rfl, hb2⟩
      rw [L_bs, hna.out, hfa.out]
      go_wp2_with fail
      refine (snum_any (bs b) _ (by rw [size_bs]; unfold maxLen; omega)).mono ?_; rintro e w3 ⟨rfl, hb3⟩
      rw [L_bs, hnb.out, hfb.out]
      have hb13 := hb1.trans ((hb2.trans (hb3.mono hb2.size)).mono hb1.size)
      obtain ⟨f1, f2, f3, f4⟩ := box_facts hb13
      clear hb1 hb2 hb3 hb13
      go_wp2_with fail
      all_goals (try (exfalso; omega))
      refine bodyPost_ret (v := .tuple #[.agg #[.int .i64 (0), .int .i64 (0)], .bool false, .bool false]) ?_ rfl ⟨by rw [hw.out]; rfl, ?_⟩
      · simp [results, Tryz.results15, go_sem, f1] <;> omega
      · exact (f4.setCell (p := ⟨_, 0, none⟩) (Nat.le_refl _) _).setCell (p := ⟨_, 1, none⟩) (Nat.le_refl _) _
end Go.Proofs.YtnodboggemggmaaGreatDoor
