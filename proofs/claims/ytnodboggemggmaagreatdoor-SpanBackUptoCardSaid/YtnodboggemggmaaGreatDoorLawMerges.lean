/- SpanMerges: sums of spans, whether spans are small; the walk of the law. -/
import Derived.Test.YtnodboggemggmaaGreatDoorMergeC
import Derived.Test.YtnodboggemggmaaGreatDoorSpanH
import Derived.BigQuiet
namespace Go.Proofs.YtnodboggemggmaaGreatDoor
open Go Go.RowKit
set_option maxHeartbeats 2000000

def smallX (x : Sp) : Bool := decide (-1099511627776 ≤ x.1 ∧ x.1 ≤ 1099511627776 ∧ -1099511627776 ≤ x.2 ∧ x.2 ≤ 1099511627776)
def smallL (l : List Sp) : Bool := l.all smallX
def spanN (x : Sp) : Int := if x.1 < x.2 then x.2 - x.1 else 0
def totS (l : List Sp) : Int := l.foldl (fun n x => n + spanN x) 0
theorem totS_take {l : List Sp} {k : Nat} (h : k < l.length) : totS (l.take (k + 1)) = totS (l.take k) + spanN l[k] := by
  unfold totS
  rw [List.take_succ_eq_append_getElem h, List.foldl_append]; rfl
theorem smallL_at {l : List Sp} {k : Nat} (h : k < l.length) (hs : smallL l = true) : -1099511627776 ≤ l[k].1 ∧ l[k].1 ≤ 1099511627776 ∧ -1099511627776 ≤ l[k].2 ∧ l[k].2 ≤ 1099511627776 :=
  of_decide_eq_true (List.all_eq_true.1 hs l[k] (List.getElem_mem h))
theorem totS_bd {l : List Sp} (hs : smallL l = true) : ∀ k, k ≤ l.length → 0 ≤ totS (l.take k) ∧ totS (l.take k) ≤ 2199023255552 * k
  | 0, _ => by simp [totS]
  | k + 1, h => by
    obtain ⟨i1, i2⟩ := totS_bd hs k (by omega)
    obtain ⟨s1, s2, s3, s4⟩ := smallL_at (k := k) (by omega) hs
    rw [totS_take (by omega)]
    have : 0 ≤ spanN l[k] ∧ spanN l[k] ≤ 2199023255552 := by unfold spanN; split <;> omega
    constructor
    · omega
    · rw [Int.natCast_succ, Int.mul_add]; omega

set_option maxRecDepth 100000 in
theorem total_any (v : Value) (l : List Sp) (w : World) (h : SpanSl w v l) (nl : l.length ≤ 1048576) (hsm : smallL l = true) :
    Calls Tryz.prog 11 #[v] w fun e w' => e = .returned (.int .i64 (totS l)) ∧ Below w.heap.size w w' := by
  obtain ⟨R, hR⟩ := name_it (totS l)
  rw [hR.out]
  obtain ⟨a, cap, rfl, hc⟩ := h
  have HA := Lib.hid hc
  have HSM := Lib.hid hsm
  clear hc hsm
  go_enter Tryz.func11, Tryz.ntmps11
  go_wp2_with fail
  go_loopw [3, 8] (fun n i wr => ∃ k : Nat, k ≤ l.length ∧ i = .int .i64 k ∧ n = .int .i64 (totS (l.take k)) ∧ Below w.heap.size w wr) (fun _ i _ => l.length - (intOf i).toNat)
  case atStart => exact ⟨0, Nat.zero_le _, rfl, rfl, Below.refl _ _⟩
  case round =>
    obtain ⟨k, hk, rfl, rfl, hbr⟩ := hrel
    by_cases hlt : k < l.length
    · obtain ⟨ga, oa, rfl, hga, ha1, ha2⟩ := HA.out k hlt
      obtain ⟨s1, s2, s3, s4⟩ := smallL_at hlt HSM.out
      obtain ⟨t1, t2⟩ := totS_bd HSM.out k hk
      have hst := totS_take hlt
      unfold spanN at hst
      obtain ⟨p1, hp1⟩ := name_it l[k].1
      obtain ⟨p2, hp2⟩ := name_it l[k].2
      rw [hp1.out] at ha1 hst s1 s2; rw [hp2.out] at ha2 hst s3 s4
      rw [← hbr.cell (p := ⟨ga, _, none⟩) hga] at ha1 ha2
      obtain ⟨N, hN⟩ := name_it (totS (l.take k))
      rw [hN.out] at hst t1 t2 ⊢
      have hbr1 := hbr.alloc hbr.size (.cells #[.int .i64 p1, .int .i64 p2] 38)
      by_cases hlt2 : p1 < p2
      · rw [if_pos hlt2] at hst
        have HST := Lib.hid hst
        clear hst
        go_wp2_with fail
        all_goals (try (exfalso; omega))
        go_roundw
        case rel => exact ⟨k + 1, by omega, by go_num, by rw [HST.out], hbr1⟩
        case measure => simp [intOf]; omega
      · rw [if_neg hlt2] at hst
        have HST := Lib.hid hst
        clear hst
        go_wp2_with fail
        all_goals (try (exfalso; omega))
        go_roundw
        case rel => exact ⟨k + 1, by omega, by go_num, by rw [HST.out]; simp, hbr1⟩
        case measure => simp [intOf]; omega
    · obtain rfl : k = l.length := by omega
      rw [List.take_length]
      rw [hR.out]
      go_wp2_with fail
      go_ret
      exact ⟨rfl, hbr⟩

end Go.Proofs.YtnodboggemggmaaGreatDoor
