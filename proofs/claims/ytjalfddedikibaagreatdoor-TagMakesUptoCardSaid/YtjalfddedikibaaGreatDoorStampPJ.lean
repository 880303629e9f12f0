/- Contracts of the document's begins, FormOf, name and number. -/
import Derived.Test.YtjalfddedikibaaGreatDoorMl
namespace Go.Proofs.YtjalfddedikibaaGreatDoor
open Go Go.RowKit
set_option maxHeartbeats 2000000

theorem rbegins_any (s t : ByteArray) (a : Nat) (w : World) (ha : a ≤ s.size) (hs : s.size ≤ 1099511627) (ht : t.size ≤ 1000) :
    Calls Tryz.prog 91 #[.string s, .int .i64 a, .string t] w fun e w' => e = .returned (.bool ((L t).isPrefixOf ((L s).drop a))) ∧ w = w' := by
  obtain ⟨R, hR⟩ := name_it ((L t).isPrefixOf ((L s).drop a))
  rw [hR.out]
  by_cases h : a + t.size ≤ s.size
  · have hi : (a : Int) + (t.size : Int) ≤ (s.size : Int) := by omega
    have hf : Hid (((s.extract a (a + t.size)).toList == t.toList) = R) := by
      rw [str_eq, ← hR.out, extract_bs, L_bs]
      unfold Hid
      rw [Bool.eq_iff_iff, decide_eq_true_eq, List.isPrefixOf_iff_prefix, List.prefix_iff_eq_take, L_length, List.drop_take, Nat.add_sub_cancel_left]
      exact ⟨fun h => h.symm, fun h => h.symm⟩
    go_enter Tryz.func91, Tryz.ntmps91
    go_wp2_with fail
    all_goals (try (exfalso; omega))
    go_ret
    exact ⟨by rw [← hf.out]; rfl, rfl⟩
  · have hi : ¬ ((a : Int) + (t.size : Int) ≤ (s.size : Int)) := by omega
    have hf : Hid (R = false) := by
      rw [← hR.out]; unfold Hid
      rw [Bool.eq_false_iff]
      intro hp
      rw [List.isPrefixOf_iff_prefix] at hp
      have := hp.length_le
      rw [List.length_drop, L_length, L_length] at this
      omega
    go_enter Tryz.func91, Tryz.ntmps91
    go_wp2_with fail
    all_goals (try (exfalso; omega))
    go_ret
    exact ⟨by rw [hf.out]; rfl, rfl⟩

/-- in terms of the texts themselves -/
theorem rbegins_b (s : ByteArray) (t : List UInt8) (a : Nat) (w : World) (ha : a ≤ s.size) (hs : s.size ≤ 1099511627) (ht : t.length ≤ 1000) :
    Calls Tryz.prog 91 #[.string s, .int .i64 a, .string (bs t)] w fun e w' => e = .returned (.bool (t.isPrefixOf ((L s).drop a))) ∧ w = w' :=
  rbegins_any s (bs t) a w ha hs (by rw [size_bs]; exact ht)

theorem formFrom_step (t : List UInt8) (k : Nat) (h : k < 7) : Stm.formFrom t (Stm.longN.drop k) = if (Stm.shortN.getD k [] ++ [44]).isPrefixOf t then 0 else if (Stm.longN.getD k [] ++ [44]).isPrefixOf t then 1 else Stm.formFrom t (Stm.longN.drop (k + 1)) := by
  have : k = 0 ∨ k = 1 ∨ k = 2 ∨ k = 3 ∨ k = 4 ∨ k = 5 ∨ k = 6 := by omega
  rcases this with rfl | rfl | rfl | rfl | rfl | rfl | rfl <;> rfl
set_option maxRecDepth 100000 in
theorem rformOf_any (s : ByteArray) (w : World) (hs : s.size ≤ 1099511627) :
    Calls Tryz.prog 67 #[.string s] w fun e w' => e = .returned (.int .i64 (Stm.formOf (L s))) ∧ Below w.heap.size w w' := by
  obtain ⟨R, hR⟩ := name_it (Stm.formOf (L s))
  rw [hR.out]
  go_enter Tryz.func67, Tryz.ntmps67
  go_wp2_with fail
  go_loopw [3] (fun i wq => ∃ k : Nat, k ≤ 7 ∧ i = .int .i64 k ∧ Hid (Stm.formFrom (L s) (Stm.longN.drop k) = R) ∧ Below w.heap.size w wq) (fun i _ => 7 - (intOf i).toNat)
  case atStart => exact ⟨0, by omega, rfl, hR, Below.refl _ _⟩
  case round =>
    obtain ⟨k, hk, rfl, hk1, hbr⟩ := hrel
    by_cases hlt : k < 7
    · have hst := Lib.hid (formFrom_step (L s) k hlt)
      have l1 := short_len k
      have l2 := long_len k
      obtain ⟨n1, hn1⟩ := name_it (Stm.shortN.getD k [])
      obtain ⟨n2, hn2⟩ := name_it (Stm.longN.getD k [])
      rw [hn1.out] at l1 hst
      rw [hn2.out] at l2 hst
      have e1 : bs n1 ++ ⟨#[44]⟩ = bs (n1 ++ [44]) := by apply L_inj.1; simp [L, bs, ByteArray.data_append]
      have e2 : bs n2 ++ ⟨#[44]⟩ = bs (n2 ++ [44]) := by apply L_inj.1; simp [L, bs, ByteArray.data_append]
      have z1 : (bs n1).size ≤ 9 := by rw [size_bs]; exact l1
      have z2 : (bs n2).size ≤ 9 := by rw [size_bs]; exact l2
      have E1 := Lib.hid e1
      have E2 := Lib.hid e2
      clear e1 e2
      obtain ⟨b1, hb1⟩ := name_it ((n1 ++ [44]).isPrefixOf (L s))
      obtain ⟨b2, hb2⟩ := name_it ((n2 ++ [44]).isPrefixOf (L s))
      rw [hb1.out, hb2.out] at hst
      go_wp2_with fail
      all_goals (try (exfalso; omega))
      refine (rshort_any k _ hlt).mono ?_; rintro e w1 ⟨rfl, hc1⟩
      rw [hn1.out]
      go_wp2_with fail
      all_goals (try (exfalso; omega))
      rw [E1.out]
      refine (rbegins_b s (n1 ++ [44]) 0 _ (by omega) hs (by simp; omega)).mono ?_; rintro e w2 ⟨rfl, rfl⟩
      rw [List.drop_zero, hb1.out]
      cases b1
      · go_wp2_with fail
        all_goals (try (exfalso; omega))
        refine (rlong_any k _ hlt).mono ?_; rintro e w3 ⟨rfl, hc3⟩
        rw [hn2.out]
        go_wp2_with fail
        all_goals (try (exfalso; omega))
        rw [E2.out]
        refine (rbegins_b s (n2 ++ [44]) 0 _ (by omega) hs (by simp; omega)).mono ?_; rintro e w4 ⟨rfl, rfl⟩
        rw [List.drop_zero, hb2.out]
        have hbw := (hbr.trans (hc1.mono hbr.size))
        have hbw2 := hbw.trans (hc3.mono hbw.size)
        cases b2
        · have hnx : Hid (Stm.formFrom (L s) (Stm.longN.drop (k + 1)) = R) := by rw [← hk1.out, hst.out]; rfl
          go_wp2_with fail
          go_roundw
          case rel => exact ⟨k + 1, by omega, by go_num, hnx, hbw2⟩
          case measure => simp [intOf]; omega
        · have hr : Hid (R = 1) := by rw [← hk1.out, hst.out]; rfl
          go_wp2_with fail
          go_ret
          exact ⟨by rw [hr.out]; rfl, hbw2⟩
      · have hr : Hid (R = 0) := by rw [← hk1.out, hst.out]; rfl
        go_wp2_with fail
        go_ret
        exact ⟨by rw [hr.out]; rfl, hbr.trans (hc1.mono hbr.size)⟩
    · obtain rfl : k = 7 := by omega
      have hr : Hid (R = 2) := by rw [← hk1.out]; rfl
      go_wp2_with fail
      go_ret
      exact ⟨by rw [hr.out]; rfl, hbr⟩
end Go.Proofs.YtjalfddedikibaaGreatDoor
