/- Contracts of octet: small letters (program and reference), whether two texts are the same whatever their letters' case; classes of bytes. Every text. -/
import Derived.Test.YtnodboggemggmaaGreatDoorBase
namespace Go.Proofs.YtnodboggemggmaaGreatDoor
open Go Go.RowKit
set_option maxHeartbeats 1000000

def lowerB (c : UInt8) : UInt8 := if 65 ≤ c.toNat ∧ c.toNat ≤ 90 then c + 32 else c
def lower (l : List UInt8) : List UInt8 := l.map lowerB
theorem lower_length (l : List UInt8) : (lower l).length = l.length := by simp [lower]
/-- what has been made of a text behind k rounds -/
def lowT (l : List UInt8) (k : Nat) : List UInt8 := (l.take k).map lowerB ++ l.drop k
theorem lowT_length (l : List UInt8) (k : Nat) : (lowT l k).length = l.length := by simp [lowT]; omega
theorem lowT_zero (l : List UInt8) : lowT l 0 = l := by simp [lowT]
theorem lowT_all (l : List UInt8) (k : Nat) (h : l.length ≤ k) : lowT l k = lower l := by
  simp [lowT, lower, List.take_of_length_le h, List.drop_of_length_le h]
theorem lowT_succ (l : List UInt8) (k : Nat) (h : k < l.length) : lowT l (k + 1) = (lowT l k).set k (lowerB l[k]) := by
  unfold lowT
  rw [List.take_succ_eq_append_getElem h, List.drop_eq_getElem_cons h, List.map_append, List.set_append_right _ _ (by simp; omega), show k - (List.map lowerB (List.take k l)).length = 0 by simp; omega, List.set_cons_zero]
  simp
theorem lowT_get (l : List UInt8) (k : Nat) (h : k < l.length) : (lowT l k).getD k 0 = l[k] := by
  unfold lowT
  rw [List.getD, List.getElem?_append_right (by simp; omega)]
  simp [show k - min k l.length = 0 by omega, List.getElem?_eq_getElem h]
theorem lowT_same (l : List UInt8) (k : Nat) (h : k < l.length) (hs : lowerB l[k] = l[k]) : lowT l (k + 1) = lowT l k := by
  rw [lowT_succ l k h, hs]
  apply List.ext_getElem?
  intro i
  rw [List.getElem?_set]
  split
  · rename_i e; subst e
    have := lowT_get l k h
    rw [List.getD] at this
    cases hx : (lowT l k)[k]? with
    | none => rw [List.getElem?_eq_none_iff, lowT_length] at hx; omega
    | some x => rw [hx] at this; simp at this; subst this; simp [lowT_length, h]
  · rfl
theorem u8_up {x : UInt8} (h1 : 65 ≤ x.toNat) (h2 : x.toNat ≤ 90) : (x + 32).toNat = x.toNat + 32 := by
  rw [UInt8.toNat_add]; show (x.toNat + 32) % 256 = _; omega

theorem lower_any (s : ByteArray) (w : World) (hs : s.size ≤ maxLen) :
    Calls Tryz.prog 35 #[.string s] w fun e w' => e = .returned (.string (bs (lower (L s)))) ∧ Below w.heap.size w w' := by
  unfold maxLen at hs
  obtain ⟨cap, w1, hconv, hb1, hrow, hcap⟩ := conv_bytes (P := Tryz.prog) w 9 62 5 s Tryz.underlying9 Tryz.underlying62 Tryz.underlying5
  have hL := L_length s
  go_enter Tryz.func35, Tryz.ntmps35
  go_wp2_with fail
  clear hconv
  go_loopw [4, 5, 10] (fun _ _ i wr => ∃ k : Nat, k ≤ s.size ∧ i = .int .i64 k ∧ Hid (ByteRow wr w.heap.size (lowT (L s) k)) ∧ Below w.heap.size w wr) (fun _ _ i _ => s.size - (intOf i).toNat)
  case atStart => exact ⟨0, Nat.zero_le _, rfl, by rw [lowT_zero]; exact hrow, hb1⟩
  case round =>
    obtain ⟨k, hk, rfl, hr, hbr⟩ := hrel
    clear hrow hb1
    by_cases hlt : k < s.size
    · have hc := hr.out.cell k (by rw [lowT_length]; omega)
      have hf := hr.out.free k (by rw [lowT_length]; omega)
      rw [lowT_get _ _ (by omega)] at hc
      obtain ⟨x, hx⟩ := name_it ((L s)[k]'(by omega))
      rw [hx.out] at hc
      by_cases hup : (65 : Int) ≤ (x.toNat : Int) ∧ (x.toNat : Int) ≤ 90
      · obtain ⟨u1, u2⟩ := hup
        have hl : Hid (ByteRow (wr.setCell ⟨w.heap.size, k, none⟩ (.int .u8 ((x.toNat : Int) + 97 - 65))) w.heap.size (lowT (L s) (k + 1))) := by
          have h1 := hr.out.set k (by rw [lowT_length]; omega) (lowerB x)
          rw [lowT_succ _ _ (by omega), hx.out]
          have : ((lowerB x).toNat : Int) = (x.toNat : Int) + 97 - 65 := by
            unfold lowerB; rw [if_pos (by omega), u8_up (by omega) (by omega)]; omega
          rw [this] at h1
          exact h1
        go_wp2_with fail
        go_roundw
        case rel => exact ⟨k + 1, by omega, by go_num, hl, hbr.setCell (Nat.le_refl _) _⟩
        case measure => simp [intOf]; omega
      · have hl : Hid (ByteRow wr w.heap.size (lowT (L s) (k + 1))) := by
          rw [lowT_same _ _ (by omega) (by rw [hx.out]; unfold lowerB; rw [if_neg (by omega)])]
          exact hr.out
        have hup' : (x.toNat : Int) < 65 ∨ 90 < (x.toNat : Int) := by omega
        clear hup
        rcases hup' with hup | hup
        all_goals
          go_wp2_with fail
          all_goals
            go_roundw
            case rel => exact ⟨k + 1, by omega, by go_num, hl, hbr⟩
            case measure => simp [intOf]; omega
    · obtain rfl : k = s.size := by omega
      have hr2 := hr.out
      rw [lowT_all _ _ (by omega)] at hr2
      have hback := conv_back (P := Tryz.prog) 62 9 5 (cap := cap) (n := s.size) hr2 (by rw [lower_length]; omega) Tryz.underlying62 Tryz.underlying5 Tryz.underlying9
      clear hr2
      go_wp2_with fail
      go_ret
      exact ⟨rfl, hbr⟩
theorem rlower_any (s : ByteArray) (w : World) (hs : s.size ≤ maxLen) :
    Calls Tryz.prog 37 #[.string s] w fun e w' => e = .returned (.string (bs (lower (L s)))) ∧ Below w.heap.size w w' := by
  unfold maxLen at hs
  have s1 : (0 : Int) ≤ 1 := by omega
  have s2 : (0 : Int) ≤ 2 := by omega
  have s3 : (0 : Int) ≤ 3 := by omega
  obtain ⟨cap, w1, hconv, hb1, hrow, hcap⟩ := conv_bytes (P := Tryz.prog) w 9 62 5 s Tryz.underlying9 Tryz.underlying62 Tryz.underlying5
  have hL := L_length s
  go_enter Tryz.func37, Tryz.ntmps37
  go_wp2_with fail
  clear hconv
  go_loopw [4] (fun i wr => ∃ k : Nat, k ≤ s.size ∧ i = .int .i64 k ∧ Hid (ByteRow wr w.heap.size (lowT (L s) k)) ∧ Below w.heap.size w wr) (fun i _ => s.size - (intOf i).toNat)
  case atStart => exact ⟨0, Nat.zero_le _, rfl, by rw [lowT_zero]; exact hrow, hb1⟩
  case round =>
    obtain ⟨k, hk, rfl, hr, hbr⟩ := hrel
    clear hrow hb1
    by_cases hlt : k < s.size
    · have hc := hr.out.cell k (by rw [lowT_length]; omega)
      have hf := hr.out.free k (by rw [lowT_length]; omega)
      rw [lowT_get _ _ (by omega)] at hc
      obtain ⟨x, hx⟩ := name_it ((L s)[k]'(by omega))
      rw [hx.out] at hc
      by_cases hup : (65 : Int) ≤ (x.toNat : Int) ∧ (x.toNat : Int) ≤ 90
      · obtain ⟨u1, u2⟩ := hup
        have hl : Hid (ByteRow (wr.setCell ⟨w.heap.size, k, none⟩ (.int .u8 ((x.toNat : Int) + 32))) w.heap.size (lowT (L s) (k + 1))) := by
          have h1 := hr.out.set k (by rw [lowT_length]; omega) (lowerB x)
          rw [lowT_succ _ _ (by omega), hx.out]
          have : ((lowerB x).toNat : Int) = (x.toNat : Int) + 32 := by
            unfold lowerB; rw [if_pos (by omega), u8_up (by omega) (by omega)]; omega
          rw [this] at h1
          exact h1
        go_wp2_with fail
        go_roundw
        case rel => exact ⟨k + 1, by omega, by go_num, hl, hbr.setCell (Nat.le_refl _) _⟩
        case measure => simp [intOf]; omega
      · have hl : Hid (ByteRow wr w.heap.size (lowT (L s) (k + 1))) := by
          rw [lowT_same _ _ (by omega) (by rw [hx.out]; unfold lowerB; rw [if_neg (by omega)])]
          exact hr.out
        have hup' : (x.toNat : Int) < 65 ∨ 90 < (x.toNat : Int) := by omega
        clear hup
        rcases hup' with hup | hup
        all_goals
          go_wp2_with fail
          all_goals
            go_roundw
            case rel => exact ⟨k + 1, by omega, by go_num, hl, hbr⟩
            case measure => simp [intOf]; omega
    · obtain rfl : k = s.size := by omega
      have hr2 := hr.out
      rw [lowT_all _ _ (by omega)] at hr2
      have hback := conv_back (P := Tryz.prog) 62 9 5 (cap := cap) (n := s.size) hr2 (by rw [lower_length]; omega) Tryz.underlying62 Tryz.underlying5 Tryz.underlying9
      clear hr2
      go_wp2_with fail
      go_ret
      exact ⟨rfl, hbr⟩

theorem same_any (a b : ByteArray) (w : World) (ha : a.size ≤ maxLen) (hb : b.size ≤ maxLen) :
    Calls Tryz.prog 14 #[.string a, .string b] w fun e w' => e = .returned (.bool (decide (lower (L a) = lower (L b)))) ∧ Below w.heap.size w w' := by
  obtain ⟨R, hR⟩ := name_it (decide (lower (L a) = lower (L b)))
  rw [hR.out]
  go_enter Tryz.func14, Tryz.ntmps14
  go_wp2_with fail
  refine (lower_any a _ ha).mono ?_; rintro e w1 ⟨rfl, hb1⟩
  go_wp2_with fail
  refine (lower_any b _ hb).mono ?_; rintro e w2 ⟨rfl, hb2⟩
  go_wp2_with fail
  go_ret
  refine ⟨ret_bool ?_, hb1.trans (hb2.mono hb1.size)⟩
  rw [← hR.out]
  rw [str_eq, L_bs, L_bs]
theorem rsame_any (a b : ByteArray) (w : World) (ha : a.size ≤ maxLen) (hb : b.size ≤ maxLen) :
    Calls Tryz.prog 16 #[.string a, .string b] w fun e w' => e = .returned (.bool (decide (lower (L a) = lower (L b)))) ∧ Below w.heap.size w w' := by
  obtain ⟨R, hR⟩ := name_it (decide (lower (L a) = lower (L b)))
  rw [hR.out]
  have s1 : (0 : Int) ≤ 1 := by omega
  go_enter Tryz.func16, Tryz.ntmps16
  go_wp2_with fail
  refine (rlower_any a _ ha).mono ?_; rintro e w1 ⟨rfl, hb1⟩
  go_wp2_with fail
  refine (rlower_any b _ hb).mono ?_; rintro e w2 ⟨rfl, hb2⟩
  go_wp2_with fail
  go_ret
  refine ⟨ret_bool ?_, hb1.trans (hb2.mono hb1.size)⟩
  rw [← hR.out]
  rw [str_eq, L_bs, L_bs]
end Go.Proofs.YtnodboggemggmaaGreatDoor
