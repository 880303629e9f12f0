/- Contracts of the document's ledger: rows of bytes. -/
import Derived.Test.YtfgaiopkclogmaaGreatDoorMd
import Derived.Test.YtfgaiopkclogmaaGreatDoorLedgHJ
namespace Go.Proofs.YtfgaiopkclogmaaGreatDoor
open Go Go.RowKit
set_option maxHeartbeats 4000000

set_option maxRecDepth 100000 in
theorem rrunname_any (s : ByteArray) (n0 : Nat) (w : World) (hn : n0 ≤ s.size) (hs : s.size ≤ 1073741824) :
    Calls Tryz.prog 37 #[.string s, .int .i64 n0, .int .i64 64, .bool false] w fun e w' => e = .returned (.tuple #[.int .i64 ((n0 + runK nameB 64 ((L s).drop n0) : Nat) : Int), .bool (decide (0 < runK nameB 64 ((L s).drop n0)))]) ∧ Below w.heap.size w w' := by
  obtain ⟨K, hK⟩ := name_it (runK nameB 64 ((L s).drop n0))
  rw [hK.out]
  go_enter Tryz.func37, Tryz.ntmps37
  go_wp2_with fail
  go_loopw [10] (fun i wr => ∃ j : Nat, j ≤ 64 ∧ n0 + j ≤ s.size ∧ i = .int .i64 ((n0 + j : Nat) : Int) ∧ Hid (j + runK nameB (64 - j) ((L s).drop (n0 + j)) = K) ∧ Hid (Below w.heap.size w wr)) (fun i _ => s.size + 1 - (intOf i).toNat)
  case atStart => exact ⟨0, by omega, hn, rfl, by unfold Hid; rw [Nat.zero_add]; exact hK.out, Below.refl _ _⟩
  clear hK
  case round =>
    obtain ⟨j, hj, hnj, rfl, hk, hbr⟩ := hrel
    obtain ⟨wq, hwq⟩ : ∃ wq, wq = wr := ⟨wr, rfl⟩
    subst hwq
    obtain ⟨n, hne⟩ : ∃ n, n = n0 + j := ⟨_, rfl⟩
    rw [← hne] at hnj hk ⊢
    have HN := Lib.hid hne
    have hnn : n0 ≤ n := by omega
    have hjs : (j : Int) = (n : Int) - (n0 : Int) := by omega
    have HJS := Lib.hid hjs
    have fin : Hid (K = j) → Hid ((.tuple #[.int .i64 (n : Int), .bool (decide (n0 < n))] : Value) = .tuple #[.int .i64 ((n0 + K : Nat) : Int), .bool (decide (0 < K))]) := by
      intro h
      unfold Hid
      rw [h.out, ← hne, show decide (n0 < n) = decide (0 < j) by rw [Bool.eq_iff_iff, decide_eq_true_eq, decide_eq_true_eq]; omega]
    have FIN := Lib.hid fin
    clear fin hne hjs
    by_cases h1 : n < s.size
    · by_cases h2 : j < 64
      · have h2i : (n : Int) - (n0 : Int) < 64 := by have := HJS.out; omega
        have hk2 := hk.out
        rw [L_drop h1, show 64 - j = (64 - (j + 1)) + 1 by omega, runK] at hk2
        have HM := Lib.hid (fun wx => rname_any s[n] wx)
        cases hm : nameB s[n] with
        | true =>
          rw [hm] at HM hk2
          rw [if_pos rfl] at hk2
          have HK : Hid (j + 1 + runK nameB (64 - (j + 1)) ((L s).drop (n + 1)) = K) := by unfold Hid; omega
          clear hk hk2 hm
          go_wp2_with fail
          all_goals (try (exfalso; omega))
          refine (HM.out _).mono ?_; rintro e w' ⟨rfl, rfl⟩
          go_wp2_with fail
          all_goals (try (exfalso; omega))
          go_roundw
          case rel =>
            have h3 := HN.out
            refine ⟨j + 1, by omega, by omega, by go_num, ?_, hbr.out⟩
            rw [show n0 + (j + 1) = n + 1 by omega]; exact HK
          case measure => simp [intOf]; omega
        | false =>
          rw [hm] at HM hk2
          rw [if_neg nf] at hk2
          have hf := Lib.hid ((FIN.out (by unfold Hid; omega)).out)
          clear hk hk2 hm
          go_wp2_with fail
          all_goals (try (exfalso; omega))
          refine (HM.out _).mono ?_; rintro e w' ⟨rfl, rfl⟩
          go_wp2_with fail
          all_goals (try (exfalso; omega))
          go_ret2
          exact ⟨congrArg Ending.returned hf.out, hbr.out⟩
      · have h2i : ¬ (n : Int) - (n0 : Int) < 64 := by have := HJS.out; omega
        have hf := Lib.hid ((FIN.out (by
          have := hk.out
          rw [show 64 - j = 0 by omega, runK] at this
          unfold Hid; omega)).out)
        clear hk
        go_wp2_with fail
        all_goals (try (exfalso; omega))
        go_ret2
        exact ⟨congrArg Ending.returned hf.out, hbr.out⟩
    · have hf := Lib.hid ((FIN.out (by
        have := hk.out
        rw [runK_end nameB _ (List.drop_of_length_le (by rw [L_length]; omega))] at this
        unfold Hid; omega)).out)
      clear hk
      go_wp2_with fail
      all_goals (try (exfalso; omega))
      go_ret2
      exact ⟨congrArg Ending.returned hf.out, hbr.out⟩

set_option maxRecDepth 100000 in
theorem rrunsign_any (s : ByteArray) (n0 : Nat) (w : World) (hn : n0 ≤ s.size) (hs : s.size ≤ 1073741824) :
    Calls Tryz.prog 37 #[.string s, .int .i64 n0, .int .i64 24, .bool true] w fun e w' => e = .returned (.tuple #[.int .i64 ((n0 + runK signB 24 ((L s).drop n0) : Nat) : Int), .bool (decide (0 < runK signB 24 ((L s).drop n0)))]) ∧ Below w.heap.size w w' := by
  obtain ⟨K, hK⟩ := name_it (runK signB 24 ((L s).drop n0))
  rw [hK.out]
  go_enter Tryz.func37, Tryz.ntmps37
  go_wp2_with fail
  go_loopw [10] (fun i wr => ∃ j : Nat, j ≤ 24 ∧ n0 + j ≤ s.size ∧ i = .int .i64 ((n0 + j : Nat) : Int) ∧ Hid (j + runK signB (24 - j) ((L s).drop (n0 + j)) = K) ∧ Hid (Below w.heap.size w wr)) (fun i _ => s.size + 1 - (intOf i).toNat)
  case atStart => exact ⟨0, by omega, hn, rfl, by unfold Hid; rw [Nat.zero_add]; exact hK.out, Below.refl _ _⟩
  clear hK
  case round =>
    obtain ⟨j, hj, hnj, rfl, hk, hbr⟩ := hrel
    obtain ⟨wq, hwq⟩ : ∃ wq, wq = wr := ⟨wr, rfl⟩
    subst hwq
    obtain ⟨n, hne⟩ : ∃ n, n = n0 + j := ⟨_, rfl⟩
    rw [← hne] at hnj hk ⊢
    have HN := Lib.hid hne
    have hnn : n0 ≤ n := by omega
    have hjs : (j : Int) = (n : Int) - (n0 : Int) := by omega
    have HJS := Lib.hid hjs
    have fin : Hid (K = j) → Hid ((.tuple #[.int .i64 (n : Int), .bool (decide (n0 < n))] : Value) = .tuple #[.int .i64 ((n0 + K : Nat) : Int), .bool (decide (0 < K))]) := by
      intro h
      unfold Hid
      rw [h.out, ← hne, show decide (n0 < n) = decide (0 < j) by rw [Bool.eq_iff_iff, decide_eq_true_eq, decide_eq_true_eq]; omega]
    have FIN := Lib.hid fin
    clear fin hne hjs
    by_cases h1 : n < s.size
    · by_cases h2 : j < 24
      · have h2i : (n : Int) - (n0 : Int) < 24 := by have := HJS.out; omega
        have hk2 := hk.out
        rw [L_drop h1, show 24 - j = (24 - (j + 1)) + 1 by omega, runK] at hk2
        have HM := Lib.hid (fun wx => rissign_any s[n] wx)
        cases hm : signB s[n] with
        | true =>
          rw [hm] at HM hk2
          rw [if_pos rfl] at hk2
          have HK : Hid (j + 1 + runK signB (24 - (j + 1)) ((L s).drop (n + 1)) = K) := by unfold Hid; omega
          clear hk hk2 hm
          go_wp2_with fail
          all_goals (try (exfalso; omega))
          refine (HM.out _).mono ?_; rintro e wv ⟨rfl, hbv⟩
          go_wp2_with fail
          all_goals (try (exfalso; omega))
          go_roundw
          case rel =>
            have h3 := HN.out
            refine ⟨j + 1, by omega, by omega, by go_num, ?_, (hbr.out.trans (hbv.mono hbr.out.size))⟩
            rw [show n0 + (j + 1) = n + 1 by omega]; exact HK
          case measure => simp [intOf]; omega
        | false =>
          rw [hm] at HM hk2
          rw [if_neg nf] at hk2
          have hf := Lib.hid ((FIN.out (by unfold Hid; omega)).out)
          clear hk hk2 hm
          go_wp2_with fail
          all_goals (try (exfalso; omega))
          refine (HM.out _).mono ?_; rintro e wv ⟨rfl, hbv⟩
          go_wp2_with fail
          all_goals (try (exfalso; omega))
          go_ret2
          exact ⟨congrArg Ending.returned hf.out, (hbr.out.trans (hbv.mono hbr.out.size))⟩
      · have h2i : ¬ (n : Int) - (n0 : Int) < 24 := by have := HJS.out; omega
        have hf := Lib.hid ((FIN.out (by
          have := hk.out
          rw [show 24 - j = 0 by omega, runK] at this
          unfold Hid; omega)).out)
        clear hk
        go_wp2_with fail
        all_goals (try (exfalso; omega))
        go_ret2
        exact ⟨congrArg Ending.returned hf.out, hbr.out⟩
    · have hf := Lib.hid ((FIN.out (by
        have := hk.out
        rw [runK_end signB _ (List.drop_of_length_le (by rw [L_length]; omega))] at this
        unfold Hid; omega)).out)
      clear hk
      go_wp2_with fail
      all_goals (try (exfalso; omega))
      go_ret2
      exact ⟨congrArg Ending.returned hf.out, hbr.out⟩

end Go.Proofs.YtfgaiopkclogmaaGreatDoor
