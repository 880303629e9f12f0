/- Contracts of the document's Lower and Alike of fields' names. -/
import Derived.Test.YtjalfddedikibaaGreatDoorMa
namespace Go.Proofs.YtjalfddedikibaaGreatDoor
open Go Go.RowKit
set_option maxHeartbeats 4000000

theorem rlower6_any (s : ByteArray) (w : World) (hs : s.size ≤ maxLen) :
    Calls Tryz.prog 84 #[.string s] w fun e w' => e = .returned (.string (bs (lower (L s)))) ∧ Below w.heap.size w w' := by
  unfold maxLen at hs
  have s1 : (0 : Int) ≤ 1 := by omega
  have s2 : (0 : Int) ≤ 2 := by omega
  have s3 : (0 : Int) ≤ 3 := by omega
  obtain ⟨cap, w1, hconv, hb1, hrow, hcap⟩ := conv_bytes (P := Tryz.prog) w 9 77 5 s Tryz.underlying9 Tryz.underlying77 Tryz.underlying5
  have hL := L_length s
  go_enter Tryz.func84, Tryz.ntmps84
  go_wp2_with fail
  clear hconv
  go_loopw [4] (fun i wr => ∃ k : Nat, k ≤ s.size ∧ i = .int .i64 k ∧ Hid (ByteRow wr w.heap.size (lowT (L s) k)) ∧ Below w.heap.size w wr) (fun i _ => s.size - (intOf i).toNat)
  case atStart => exact ⟨0, Nat.zero_le _, rfl, by rw [lowT_zero]; exact hrow, hb1⟩
  case round =>
    obtain ⟨k, hk, rfl, hr, hbr⟩ := hrel
    clear hrow hb1
    by_cases hlt : k < s.size
    · have hc := hr.out.cell k (by rw [lowT_length]; omega)
      have hf := hr.out.free k (by rw [lowT_length]; omega)
      rw [lowT_get _ _ (by omega)] at hc
      obtain ⟨x, hx⟩ := name_it ((L s)[k]'(by omega))
      rw [hx.out] at hc
      by_cases hup : (65 : Int) ≤ (x.toNat : Int) ∧ (x.toNat : Int) ≤ 90
      · obtain ⟨u1, u2⟩ := hup
        have hl : Hid (ByteRow (wr.setCell ⟨w.heap.size, k, none⟩ (.int .u8 ((x.toNat : Int) + 32))) w.heap.size (lowT (L s) (k + 1))) := by
          have h1 := hr.out.set k (by rw [lowT_length]; omega) (lowerB x)
          rw [lowT_succ _ _ (by omega), hx.out]
          have : ((lowerB x).toNat : Int) = (x.toNat : Int) + 32 := by
            unfold lowerB; rw [if_pos (by omega), u8_up (by omega) (by omega)]; omega
          rw [this] at h1
          exact h1
        go_wp2_with fail
        go_roundw
        case rel => exact ⟨k + 1, by omega, by go_num, hl, hbr.setCell (Nat.le_refl _) _⟩
        case measure => simp [intOf]; omega
      · have hl : Hid (ByteRow wr w.heap.size (lowT (L s) (k + 1))) := by
          rw [lowT_same _ _ (by omega) (by rw [hx.out]; unfold lowerB; rw [if_neg (by omega)])]
          exact hr.out
        have hup' : (x.toNat : Int) < 65 ∨ 90 < (x.toNat : Int) := by omega
        clear hup
        rcases hup' with hup | hup
        all_goals
          go_wp2_with fail
          all_goals
            go_roundw
            case rel => exact ⟨k + 1, by omega, by go_num, hl, hbr⟩
            case measure => simp [intOf]; omega
    · obtain rfl : k = s.size := by omega
      have hr2 := hr.out
      rw [lowT_all _ _ (by omega)] at hr2
      have hback := conv_back (P := Tryz.prog) 77 9 5 (cap := cap) (n := s.size) hr2 (by rw [lower_length]; omega) Tryz.underlying77 Tryz.underlying5 Tryz.underlying9
      clear hr2
      go_wp2_with fail
      go_ret
      exact ⟨rfl, hbr⟩

theorem rsame6_any (a b : ByteArray) (w : World) (ha : a.size ≤ maxLen) (hb : b.size ≤ maxLen) :
    Calls Tryz.prog 55 #[.string a, .string b] w fun e w' => e = .returned (.bool (decide (lower (L a) = lower (L b)))) ∧ Below w.heap.size w w' := by
  obtain ⟨R, hR⟩ := name_it (decide (lower (L a) = lower (L b)))
  rw [hR.out]
  have s1 : (0 : Int) ≤ 1 := by omega
  go_enter Tryz.func55, Tryz.ntmps55
  go_wp2_with fail
  refine (rlower6_any a _ ha).mono ?_; rintro e w1 ⟨rfl, hb1⟩
  go_wp2_with fail
  refine (rlower6_any b _ hb).mono ?_; rintro e w2 ⟨rfl, hb2⟩
  go_wp2_with fail
  go_ret
  refine ⟨ret_bool ?_, hb1.trans (hb2.mono hb1.size)⟩
  rw [← hR.out]
  rw [str_eq, L_bs, L_bs]
end Go.Proofs.YtjalfddedikibaaGreatDoor
