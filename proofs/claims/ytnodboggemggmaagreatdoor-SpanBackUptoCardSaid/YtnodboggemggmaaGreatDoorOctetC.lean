/- Contracts of the reference's octet: decimal numbers. -/
import Derived.Test.YtnodboggemggmaaGreatDoorOctetB
namespace Go.Proofs.YtnodboggemggmaaGreatDoor
open Go Go.RowKit
set_option maxHeartbeats 1000000

theorem value_any (c : UInt8) (w : World) (h : isDig c = true) : Calls Tryz.prog 104 #[.int .u8 c.toNat] w fun e w' => e = .returned (.int .i64 (dg c)) ∧ w = w' := by
  have hb : 48 ≤ c.toNat ∧ c.toNat ≤ 57 := by simpa [isDig] using h
  have hb1 : (48 : Int) ≤ (c.toNat : Int) := by omega
  have hb2 : (c.toNat : Int) ≤ 57 := by omega
  have H := Lib.hid h; clear h hb
  obtain ⟨R, hR⟩ := name_it (dg c)
  rw [hR.out]
  go_enter Tryz.func104, Tryz.ntmps104
  go_wp2_with fail
  refine (isdigit_any c _).mono ?_; rintro e w' ⟨rfl, rfl⟩
  rw [H.out]
  go_wp2_with fail
  go_ret
  exact ⟨ret_int (by rw [← hR.out]; rfl), rfl⟩

theorem rnumber_any (s : ByteArray) (most : Int) (w : World) (hs : s.size ≤ maxLen) (m0 : 9 ≤ most) (m1 : most ≤ 4611686018427387904) :
    Calls Tryz.prog 87 #[.string s, .int .i64 10, .int .i64 most] w fun e w' => e = .returned (.tuple #[.int .i64 (decN (L s) most), .int .i64 (decE (L s) most)]) ∧ w = w' := by
  unfold maxLen at hs
  obtain ⟨N, hN⟩ := name_it (decN (L s) most)
  obtain ⟨E, hE⟩ := name_it (decE (L s) most)
  rw [hN.out, hE.out]
  have hL := L_length s
  by_cases he : s.size = 0
  · have hl : L s = [] := List.eq_nil_of_length_eq_zero (by omega)
    have h1 : s.toList = [] := by rw [toList_L]; exact hl
    have ho : Hid (N = 0 ∧ E = 11) := by
      rw [← hN.out, ← hE.out]; simp [decN, decE, hl, Hid]
    clear hN hE hl
    go_enter Tryz.func87, Tryz.ntmps87
    go_wp2_with fail
    go_ret2
    exact ⟨by rw [ho.out.1, ho.out.2]; rfl, rfl⟩
  · have h1 : s.toList.isEmpty = false := by
      rw [str_empty]; exact decide_eq_false (fun h => he (by rw [← hL, h]; rfl))
    have h2 : s.toList ≠ [] := by rw [toList_L]; intro h; exact he (by rw [← hL, h]; rfl)
    go_enter Tryz.func87, Tryz.ntmps87
    go_wp2_with fail
    clear h1 h2
    go_loop [8] (fun i => ∃ k : Nat, k ≤ s.size ∧ i = .int .i64 k ∧ Hid (((L s).take k).all isDig = true)) (fun i => s.size - (intOf i).toNat)
    case atStart => exact ⟨0, Nat.zero_le _, rfl, Lib.hid rfl⟩
    case round =>
      obtain ⟨k, hk, rfl, had⟩ := hrel
      by_cases hlt : k < s.size
      · obtain ⟨x, hx1⟩ := name_it s[k]
        have htk : Hid ((L s).take (k + 1) = (L s).take k ++ [x]) := by rw [← hx1.out]; exact L_take hlt
        cases hdig : isDig x
        · have hfin : Hid (N = 0 ∧ E = 11) := by
            have hall : (L s).all isDig = false := by
              rw [Bool.eq_false_iff]; intro h
              rw [List.all_eq_true] at h
              have : x ∈ L s := List.mem_of_mem_take (i := k + 1) (by rw [htk.out]; simp)
              rw [h x this] at hdig; cases hdig
            rw [← hN.out, ← hE.out]; simp [decN, decE, hall, Hid]
          have HD := Lib.hid hdig; clear hdig
          go_wp2_with fail
          refine (isdigit_any _ _).mono ?_; rintro e w' ⟨rfl, rfl⟩
          rw [hx1.out, HD.out]
          go_wp2_with fail
          go_ret2
          exact ⟨by rw [hfin.out.1, hfin.out.2]; rfl, rfl⟩
        · have had' : Hid (((L s).take (k + 1)).all isDig = true) := by
            unfold Hid; rw [htk.out, List.all_append, had.out]; simp [hdig]
          have HD := Lib.hid hdig; clear hdig
          go_wp2_with fail
          refine (isdigit_any _ _).mono ?_; rintro e w' ⟨rfl, rfl⟩
          rw [hx1.out, HD.out]
          go_wp2_with fail
          go_round
          case rel => exact ⟨k + 1, by omega, by go_num, had'⟩
          case measure => simp [intOf]; omega
      · obtain rfl : k = s.size := by omega
        rw [L_take_all] at had
        have hne : Hid (L s ≠ []) := fun h => he (by rw [← hL, h]; rfl)
        have hle := Lib.hid (valOf_take (L s) had.out)
        have hlo : ∀ k, Hid (0 ≤ valOf ((L s).take k)) := fun k => valOf_nonneg _ (by
          rw [List.all_eq_true]; intro y hy
          exact List.all_eq_true.1 had.out y (List.mem_of_mem_take hy))
        go_wp2_with fail
        go_loop [9, 10, 11] (fun n i _ => ∃ k : Nat, k ≤ s.size ∧ i = .int .i64 k ∧ (∃ v : Int, n = .int .i64 v ∧ 0 ≤ v ∧ v ≤ most ∧ Hid (v = valOf ((L s).take k)))) (fun _ i _ => s.size - (intOf i).toNat)
        case atStart => exact ⟨0, Nat.zero_le _, rfl, 0, rfl, by omega, by omega, Lib.hid rfl⟩
        case round =>
          obtain ⟨k, hk, rfl, v, rfl, v0, v1, hv⟩ := hrel
          by_cases hlt : k < s.size
          · obtain ⟨x, hx1⟩ := name_it s[k]
            have htk : Hid ((L s).take (k + 1) = (L s).take k ++ [x]) := by rw [← hx1.out]; exact L_take hlt
            have hdig : Hid (isDig x = true) := by
              have : x ∈ L s := List.mem_of_mem_take (i := k + 1) (by rw [htk.out]; simp)
              exact List.all_eq_true.1 had.out x this
            have hdb := dg_bd hdig.out
            obtain ⟨d, hdd⟩ := name_it (dg x)
            rw [hdd.out] at hdb
            have hval : Hid (valOf ((L s).take (k + 1)) = 10 * v + d) := by
              unfold Hid; rw [htk.out, valOf_snoc, ← hv.out, hdd.out]
            go_wp2_with fail
            rw [hx1.out]
            refine (value_any x _ hdig.out).mono ?_; rintro e w' ⟨rfl, rfl⟩
            rw [hdd.out]
            by_cases hfit : 10 * v + d ≤ most
            · go_wp2_with fail
              all_goals (try (exfalso; omega))
              go_round
              case rel => exact ⟨k + 1, by omega, by go_num, v * 10 + d, rfl, by omega, by omega, by unfold Hid; rw [hval.out]; omega⟩
              case measure => simp [intOf]; omega
            · have hfin : Hid (N = 0 ∧ E = 12) := by
                have h1 := hle.out (k + 1)
                rw [hval.out] at h1
                rw [← hN.out, ← hE.out]
                have : decE (L s) most = 12 := by simp [decE, hne.out, had.out]; omega
                exact ⟨by simp [decN, this], this⟩
              go_wp2_with fail
              all_goals (try (exfalso; omega))
              go_ret2
              exact ⟨by rw [hfin.out.1, hfin.out.2]; rfl, rfl⟩
          · obtain rfl : k = s.size := by omega
            have hfin : Hid (N = v ∧ E = 0) := by
              have h1 := hv.out
              rw [L_take_all] at h1
              rw [← hN.out, ← hE.out]
              have : decE (L s) most = 0 := by simp [decE, hne.out, had.out]; omega
              exact ⟨by simp [decN, this, h1], this⟩
            go_wp2_with fail
            all_goals (try (exfalso; omega))
            go_ret2
            exact ⟨by rw [hfin.out.1, hfin.out.2]; rfl, rfl⟩
theorem rdecimal_any (s : ByteArray) (most : Int) (w : World) (hs : s.size ≤ maxLen) (m0 : 9 ≤ most) (m1 : most ≤ 4611686018427387904) :
    Calls Tryz.prog 59 #[.string s, .int .i64 most] w fun e w' => e = .returned (.tuple #[.int .i64 (decN (L s) most), .int .i64 (decE (L s) most)]) ∧ w = w' := by
  go_enter Tryz.func59, Tryz.ntmps59
  go_wp2_with fail
  refine (rnumber_any s most _ hs m0 m1).mono ?_; rintro e w1 ⟨rfl, rfl⟩
  go_wp2_with fail
  go_ret2
  exact ⟨rfl, rfl⟩
end Go.Proofs.YtnodboggemggmaaGreatDoor
