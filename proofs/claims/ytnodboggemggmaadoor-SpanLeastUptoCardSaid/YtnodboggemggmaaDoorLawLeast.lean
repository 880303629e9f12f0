/- SpanLeast: the walk of the law. -/
import Derived.Test.YtnodboggemggmaaDoorMergeB
import Derived.Test.YtnodboggemggmaaDoorSpanH
import Derived.Deep.RegionHeld3
import Derived.BigQuiet
namespace Go.Proofs.YtnodboggemggmaaDoor
open Go Go.RowKit
set_option maxHeartbeats 2000000

def covB (l : List Sp) (p : Int) : Bool := l.any fun x => decide (x.1 ≤ p ∧ p < x.2)
theorem covB_iff (l : List Sp) (p : Int) : covB l p = true ↔ cov l p := by
  unfold covB cov
  rw [List.any_eq_true]
  constructor
  · rintro ⟨x, h, h2⟩; exact ⟨x, h, (of_decide_eq_true h2).1, (of_decide_eq_true h2).2⟩
  · rintro ⟨x, h, h1, h2⟩; exact ⟨x, h, decide_eq_true ⟨h1, h2⟩⟩
theorem covB_take {l : List Sp} {k : Nat} {p : Int} (h : k < l.length) : covB (l.take (k + 1)) p = (covB (l.take k) p || decide (l[k].1 ≤ p ∧ p < l[k].2)) := by
  unfold covB
  rw [List.take_succ_eq_append_getElem h, List.any_append]; simp
theorem norm_at : ∀ {l : List Sp}, Norm l → ∀ k (h : k < l.length), l[k].1 < l[k].2
  | _, hn, _, h => norm_mem hn _ (List.getElem_mem h)
theorem norm_rise : ∀ {l : List Sp}, Norm l → ∀ k (h : k + 1 < l.length), l[k].2 < l[k + 1].1
  | x :: r, hn, 0, h => hn.2.1 _ (List.getElem_mem (by simpa using h))
  | x :: r, hn, k + 1, h => norm_rise (l := r) hn.2.2 k (by simpa using h)

set_option maxRecDepth 100000 in
theorem lawLeast_any (v : Value) (l : List Sp) (n : Int) (w : World) (hE : Env w) (h : SpanSl w v l) (nl : 3 * l.length ≤ 1048576) :
    Calls Tryd.prog 11 #[v, .int .i64 n] w fun e w' => e = .returned (.bool true) ∧ Below w.heap.size w w' := by
  have HE := Lib.hid hE; clear hE
  have HS := Lib.hid h
  obtain ⟨hnorm, hcov, hln⟩ := rmergeS_norm l
  have HME := Lib.hid (merge_any v l w h (by omega))
  have hceq : covB (rmergeS l) n = covB l n := by
    rw [Bool.eq_iff_iff, covB_iff, covB_iff]; exact hcov n
  obtain ⟨M, hM⟩ := name_it (rmergeS l)
  rw [hM.out] at HME hnorm hln hceq
  have HN1 := Lib.hid (norm_at hnorm)
  have HN2 := Lib.hid (norm_rise hnorm)
  have HCE := Lib.hid hceq
  obtain ⟨a, cap, hva, hx0⟩ := h
  subst hva
  clear hx0 hnorm hcov hceq hM
  go_enter Tryd.func11, Tryd.ntmps11
  go_wp2_with fail
  refine HME.out.mono ?_; rintro e w1 ⟨m1, rfl, hr1, d1⟩
  obtain ⟨ma, mc, hm1⟩ := spanRow_slice hr1
  subst hm1
  obtain ⟨ma', mc', hmv, hmcs⟩ := spanSl_of_row hr1
  injection hmv with q1 q2 q3
  subst q1 q3
  have HM := Lib.hid hmcs
  obtain ⟨a', cap', hav, hacs⟩ := spanSl_keep HS.out d1
  injection hav with q1 q2 q3
  subst q1 q3
  have HA := Lib.hid hacs
  have HE1 := Lib.hid (HE.out.next d1)
  clear hr1 hmcs hacs HME HS HE
  go_wp2_with fail
  go_loopw [6] (fun i wr => ∃ k : Nat, k ≤ M.length ∧ i = .int .i64 k ∧ Below w1.heap.size w1 wr) (fun i _ => M.length - (intOf i).toNat)
  case atStart => exact ⟨0, Nat.zero_le _, rfl, Below.refl _ _⟩
  case round =>
    obtain ⟨k, hk, rfl, hbr⟩ := hrel
    by_cases hlt : k < M.length
    · obtain ⟨ga, oa, rfl, hga, ha1, ha2⟩ := HM.out k hlt
      have n1 := HN1.out k hlt
      obtain ⟨p1, hp1⟩ := name_it M[k].1
      obtain ⟨p2, hp2⟩ := name_it M[k].2
      rw [hp1.out] at ha1 n1; rw [hp2.out] at ha2 n1
      rw [← hbr.cell (p := ⟨ga, _, none⟩) hga] at ha1 ha2
      have hd1 : decide (p2 ≤ p1) = false := decide_eq_false (by omega)
      cases k with
      | zero =>
        simp only [Nat.zero_mul, Nat.add_zero] at ha1 ha2
        have b2 : (0 : Int) < (M.length : Int) := by omega
        have b3 : (0 : Int) ≤ 0 := by omega
        have hd3 : decide ((0 : Int) < 0) = false := rfl
        have hd4 : decide ((0 : Int) > 0) = false := rfl
        rw [show ((0 : Nat) : Int) = 0 from rfl]
        go_wp2_with fail
        go_quiet (fail)
        go_wp2_with fail
        go_roundw
        case rel => exact ⟨0 + 1, by omega, by go_num, below_drewN hbr _⟩
        case measure => simp [intOf]; omega
      | succ k =>
        obtain ⟨gb, ob, hgo, hgb, hb1, hb2⟩ := HM.out k (by omega)
        injection hgo with hgo
        injection hgo with r1 r2
        subst r1 r2
        have n2 := HN2.out k hlt
        obtain ⟨q2, hq2⟩ := name_it M[k].2
        rw [hq2.out, hp1.out] at n2
        rw [hq2.out] at hb2
        rw [← hbr.cell (p := ⟨ga, _, none⟩) hga] at hb2
        have hd2 : decide (p1 ≤ q2) = false := decide_eq_false (by omega)
        have hd3 : decide ((0 : Int) < (k : Int) + 1) = true := decide_eq_true (by omega)
        have b0 : (0 : Int) ≤ (k : Int) := by omega
        have b1 : (0 : Int) ≤ (k : Int) + 1 := by omega
        have b2 : (k : Int) + 1 < (M.length : Int) := by omega
        have b3 : (k : Int) < (M.length : Int) := by omega
        have b4 : IntKind.i64.wrap ((k : Int) + 1 - 1) = k := by rw [Int.add_sub_cancel]; exact IntWalk.i64_in _ (by omega)
        have b5 : IntKind.i64.wrap (k : Int) = k := IntWalk.i64_in _ (by omega)
        rw [show ((k + 1 : Nat) : Int) = (k : Int) + 1 from by omega]
        go_wp2_with fail
        go_region_held3 (fun w' => w'.cell? ⟨ga, oa + (k + 1) * 2, none⟩ = some (.int .i64 p1) ∧ w'.cell? ⟨ga, oa + (k + 1) * 2 + 1, none⟩ = some (.int .i64 p2) ∧ w'.cell? ⟨ga, oa + k * 2 + 1, none⟩ = some (.int .i64 q2)) (go_keep) (fail)
        go_wp2_with fail
        go_roundw
        case rel => exact ⟨k + 1 + 1, by omega, by go_num, below_drewN hbr _⟩
        case measure => simp [intOf]; omega
    · obtain rfl : k = M.length := by omega
      go_wp2_with fail
      go_loopw [7, 9] (fun b i wr => ∃ k : Nat, k ≤ l.length ∧ i = .int .i64 k ∧ b = .bool (covB (l.take k) n) ∧ Below w1.heap.size w1 wr) (fun _ i _ => l.length - (intOf i).toNat)
      case atStart => exact ⟨0, Nat.zero_le _, rfl, rfl, hbr⟩
      case round =>
        obtain ⟨k, hk, rfl, rfl, hbr⟩ := hrel
        by_cases hlt : k < l.length
        · obtain ⟨ga, oa, rfl, hga, ha1, ha2⟩ := HA.out k hlt
          have hst := covB_take (p := n) hlt
          obtain ⟨p1, hp1⟩ := name_it l[k].1
          obtain ⟨p2, hp2⟩ := name_it l[k].2
          rw [hp1.out] at ha1 hst; rw [hp2.out] at ha2 hst
          rw [← hbr.cell (p := ⟨ga, _, none⟩) hga] at ha1 ha2
          obtain ⟨b, hb⟩ := name_it (covB (l.take k) n)
          rw [hb.out] at hst ⊢
          have b1 : (0 : Int) ≤ (k : Int) := by omega
          have b2 : (k : Int) < (l.length : Int) := by omega
          cases b
          · by_cases h1 : p1 ≤ n
            · by_cases h2 : n < p2
              · rw [decide_eq_true ⟨h1, h2⟩] at hst
                have HST := Lib.hid hst
                clear hst
                go_wp2_with fail
                all_goals (try (exfalso; omega))
                go_roundw
                case rel => exact ⟨k + 1, by omega, by go_num, by rw [HST.out]; rfl, hbr⟩
                case measure => simp [intOf]; omega
              · rw [decide_eq_false (fun h => h2 h.2)] at hst
                have HST := Lib.hid hst
                have hd1 : decide (n < p2) = false := decide_eq_false h2
                clear hst
                go_wp2_with fail
                all_goals (try (exfalso; omega))
                go_roundw
                case rel => exact ⟨k + 1, by omega, by go_num, by rw [HST.out]; rfl, hbr⟩
                case measure => simp [intOf]; omega
            · rw [decide_eq_false (fun h => h1 h.1)] at hst
              have HST := Lib.hid hst
              have hd1 : decide (p1 ≤ n) = false := decide_eq_false h1
              clear hst
              go_wp2_with fail
              all_goals (try (exfalso; omega))
              go_roundw
              case rel => exact ⟨k + 1, by omega, by go_num, by rw [HST.out]; rfl, hbr⟩
              case measure => simp [intOf]; omega
          · have HST := Lib.hid hst
            clear hst
            go_wp2_with fail
            all_goals (try (exfalso; omega))
            go_roundw
            case rel => exact ⟨k + 1, by omega, by go_num, by rw [HST.out]; rfl, hbr⟩
            case measure => simp [intOf]; omega
        · obtain rfl : k = l.length := by omega
          rw [List.take_length]
          go_wp2_with fail
          go_loopw [8, 10] (fun b i wr => ∃ k : Nat, k ≤ M.length ∧ i = .int .i64 k ∧ b = .bool (covB (M.take k) n) ∧ Below w1.heap.size w1 wr) (fun _ i _ => M.length - (intOf i).toNat)
          case atStart => exact ⟨0, Nat.zero_le _, rfl, rfl, hbr⟩
          case round =>
            obtain ⟨k, hk, rfl, rfl, hbr⟩ := hrel
            by_cases hlt : k < M.length
            · obtain ⟨ga, oa, rfl, hga, ha1, ha2⟩ := HM.out k hlt
              have hst := covB_take (p := n) hlt
              obtain ⟨p1, hp1⟩ := name_it M[k].1
              obtain ⟨p2, hp2⟩ := name_it M[k].2
              rw [hp1.out] at ha1 hst; rw [hp2.out] at ha2 hst
              rw [← hbr.cell (p := ⟨ga, _, none⟩) hga] at ha1 ha2
              obtain ⟨b, hb⟩ := name_it (covB (M.take k) n)
              rw [hb.out] at hst ⊢
              have b1 : (0 : Int) ≤ (k : Int) := by omega
              have b2 : (k : Int) < (M.length : Int) := by omega
              cases b
              · by_cases h1 : p1 ≤ n
                · by_cases h2 : n < p2
                  · rw [decide_eq_true ⟨h1, h2⟩] at hst
                    have HST := Lib.hid hst
                    clear hst
                    go_wp2_with fail
                    all_goals (try (exfalso; omega))
                    go_roundw
                    case rel => exact ⟨k + 1, by omega, by go_num, by rw [HST.out]; rfl, hbr⟩
                    case measure => simp [intOf]; omega
                  · rw [decide_eq_false (fun h => h2 h.2)] at hst
                    have HST := Lib.hid hst
                    have hd1 : decide (n < p2) = false := decide_eq_false h2
                    clear hst
                    go_wp2_with fail
                    all_goals (try (exfalso; omega))
                    go_roundw
                    case rel => exact ⟨k + 1, by omega, by go_num, by rw [HST.out]; rfl, hbr⟩
                    case measure => simp [intOf]; omega
                · rw [decide_eq_false (fun h => h1 h.1)] at hst
                  have HST := Lib.hid hst
                  have hd1 : decide (p1 ≤ n) = false := decide_eq_false h1
                  clear hst
                  go_wp2_with fail
                  all_goals (try (exfalso; omega))
                  go_roundw
                  case rel => exact ⟨k + 1, by omega, by go_num, by rw [HST.out]; rfl, hbr⟩
                  case measure => simp [intOf]; omega
              · have HST := Lib.hid hst
                clear hst
                go_wp2_with fail
                all_goals (try (exfalso; omega))
                go_roundw
                case rel => exact ⟨k + 1, by omega, by go_num, by rw [HST.out]; rfl, hbr⟩
                case measure => simp [intOf]; omega
            · obtain rfl : k = M.length := by omega
              rw [List.take_length]
              have HEr := Lib.hid (HE1.out.next hbr)
              have hce := HCE.out
              obtain ⟨c, hc⟩ := name_it (covB l n)
              rw [hc.out] at hce
              rw [hce, hc.out]
              have dr := d1.trans (hbr.mono d1.size)
              clear hce
              go_wp2_with fail
              refine (awake_any _ HEr.out).mono ?_; rintro e w3 ⟨rfl, hb3⟩
              have d3 := dr.trans (hb3.mono dr.size)
              cases c
              all_goals
                go_wp2_with fail
                go_ret
                exact ⟨rfl, d3⟩
end Go.Proofs.YtnodboggemggmaaDoor
