/- SpanMerges: sums of spans, whether spans are small; the walk of the law. -/
import Derived.Test.YtnodboggemggmaaDoorMergeC
import Derived.Test.YtnodboggemggmaaDoorSpanH
import Derived.BigQuiet
namespace Go.Proofs.YtnodboggemggmaaDoor
open Go Go.RowKit
set_option maxHeartbeats 2000000

def smallX (x : Sp) : Bool := decide (-1099511627776 ≤ x.1 ∧ x.1 ≤ 1099511627776 ∧ -1099511627776 ≤ x.2 ∧ x.2 ≤ 1099511627776)
def smallL (l : List Sp) : Bool := l.all smallX
def spanN (x : Sp) : Int := if x.1 < x.2 then x.2 - x.1 else 0
def totS (l : List Sp) : Int := l.foldl (fun n x => n + spanN x) 0
theorem totS_take {l : List Sp} {k : Nat} (h : k < l.length) : totS (l.take (k + 1)) = totS (l.take k) + spanN l[k] := by
  unfold totS
  rw [List.take_succ_eq_append_getElem h, List.foldl_append]; rfl
theorem smallL_at {l : List Sp} {k : Nat} (h : k < l.length) (hs : smallL l = true) : -1099511627776 ≤ l[k].1 ∧ l[k].1 ≤ 1099511627776 ∧ -1099511627776 ≤ l[k].2 ∧ l[k].2 ≤ 1099511627776 :=
  of_decide_eq_true (List.all_eq_true.1 hs l[k] (List.getElem_mem h))
theorem totS_bd {l : List Sp} (hs : smallL l = true) : ∀ k, k ≤ l.length → 0 ≤ totS (l.take k) ∧ totS (l.take k) ≤ 2199023255552 * k
  | 0, _ => by simp [totS]
  | k + 1, h => by
    obtain ⟨i1, i2⟩ := totS_bd hs k (by omega)
    obtain ⟨s1, s2, s3, s4⟩ := smallL_at (k := k) (by omega) hs
    rw [totS_take (by omega)]
    have : 0 ≤ spanN l[k] ∧ spanN l[k] ≤ 2199023255552 := by unfold spanN; split <;> omega
    constructor
    · omega
    · rw [Int.natCast_succ, Int.mul_add]; omega

set_option maxRecDepth 100000 in
theorem small_any (v : Value) (l : List Sp) (w : World) (h : SpanSl w v l) (nl : 3 * l.length ≤ 1048576) :
    Calls Tryd.prog 38 #[v] w fun e w' => e = .returned (.bool (smallL l)) ∧ Below w.heap.size w w' := by
  obtain ⟨R, hR⟩ := name_it (smallL l)
  rw [hR.out]
  obtain ⟨a, cap, rfl, hc⟩ := h
  have HA := Lib.hid hc
  clear hc
  go_enter Tryd.func38, Tryd.ntmps38
  go_wp2_with fail
  go_loopw [3] (fun i wr => ∃ k : Nat, k ≤ l.length ∧ i = .int .i64 k ∧ Hid (smallL (l.take k) = true) ∧ Below w.heap.size w wr) (fun i _ => l.length - (intOf i).toNat)
  case atStart => exact ⟨0, Nat.zero_le _, rfl, rfl, Below.refl _ _⟩
  case round =>
    obtain ⟨k, hk, rfl, ht, hbr⟩ := hrel
    by_cases hlt : k < l.length
    · obtain ⟨ga, oa, rfl, hga, ha1, ha2⟩ := HA.out k hlt
      have hstep : smallL (l.take (k + 1)) = smallX l[k] := by
        unfold smallL
        rw [List.take_succ_eq_append_getElem hlt, List.all_append]
        have := ht.out
        unfold smallL at this
        rw [this]; simp
      have hno : smallX l[k] = false → R = false := fun hf => by
        rw [← hR.out]
        cases hq : smallL l
        · rfl
        · have := List.all_eq_true.1 hq l[k] (List.getElem_mem hlt)
          rw [this] at hf; exact absurd hf (by decide)
      obtain ⟨p1, hp1⟩ := name_it l[k].1
      obtain ⟨p2, hp2⟩ := name_it l[k].2
      have hpx : smallX l[k] = decide (-1099511627776 ≤ p1 ∧ p1 ≤ 1099511627776 ∧ -1099511627776 ≤ p2 ∧ p2 ≤ 1099511627776) := by unfold smallX; rw [hp1.out, hp2.out]
      rw [hp1.out] at ha1; rw [hp2.out] at ha2
      rw [← hbr.cell (p := ⟨ga, _, none⟩) hga] at ha1 ha2
      clear ht
      by_cases hs : -1099511627776 ≤ p1 ∧ p1 ≤ 1099511627776 ∧ -1099511627776 ≤ p2 ∧ p2 ≤ 1099511627776
      · rw [decide_eq_true hs] at hpx
        rw [hpx] at hstep
        have HST := Lib.hid hstep
        obtain ⟨s1, s2, s3, s4⟩ := hs
        clear hno hpx hstep
        go_wp2_with fail
        all_goals (try (exfalso; omega))
        go_roundw
        case rel => exact ⟨k + 1, by omega, by go_num, HST, hbr⟩
        case measure => simp [intOf]; omega
      · rw [decide_eq_false hs] at hpx
        have hf := Lib.hid (hno hpx)
        have hs2 : p1 < -1099511627776 ∨ (-1099511627776 ≤ p1 ∧ 1099511627776 < p2) ∨ (1099511627776 < p1 ∧ p2 ≤ 1099511627776) ∨ (-1099511627776 ≤ p1 ∧ p1 ≤ 1099511627776 ∧ p2 < -1099511627776) := by omega
        clear hno hpx hstep hs
        rcases hs2 with hs2 | ⟨hs2, hs3⟩ | ⟨hs2, hs3⟩ | ⟨hs2, hs3, hs4⟩
        all_goals
          go_wp2_with fail
          all_goals (try (exfalso; omega))
          go_ret
          exact ⟨ret_bool hf.out.symm, hbr⟩
    · obtain rfl : k = l.length := by omega
      have hf : Hid (R = true) := by
        have := ht.out
        rw [List.take_length] at this
        rw [← hR.out]; exact this
      go_wp2_with fail
      all_goals (try (exfalso; omega))
      go_ret
      exact ⟨ret_bool (by rw [hf.out]; exact decide_eq_true (by omega)), hbr⟩

set_option maxRecDepth 100000 in
theorem total_any (v : Value) (l : List Sp) (w : World) (h : SpanSl w v l) (nl : 3 * l.length ≤ 1048576) (hsm : smallL l = true) :
    Calls Tryd.prog 39 #[v] w fun e w' => e = .returned (.int .i64 (totS l)) ∧ Below w.heap.size w w' := by
  obtain ⟨R, hR⟩ := name_it (totS l)
  rw [hR.out]
  obtain ⟨a, cap, rfl, hc⟩ := h
  have HA := Lib.hid hc
  have HSM := Lib.hid hsm
  clear hc hsm
  go_enter Tryd.func39, Tryd.ntmps39
  go_wp2_with fail
  go_loopw [3, 8] (fun n i wr => ∃ k : Nat, k ≤ l.length ∧ i = .int .i64 k ∧ n = .int .i64 (totS (l.take k)) ∧ Below w.heap.size w wr) (fun _ i _ => l.length - (intOf i).toNat)
  case atStart => exact ⟨0, Nat.zero_le _, rfl, rfl, Below.refl _ _⟩
  case round =>
    obtain ⟨k, hk, rfl, rfl, hbr⟩ := hrel
    by_cases hlt : k < l.length
    · obtain ⟨ga, oa, rfl, hga, ha1, ha2⟩ := HA.out k hlt
      obtain ⟨s1, s2, s3, s4⟩ := smallL_at hlt HSM.out
      obtain ⟨t1, t2⟩ := totS_bd HSM.out k hk
      have hst := totS_take hlt
      unfold spanN at hst
      obtain ⟨p1, hp1⟩ := name_it l[k].1
      obtain ⟨p2, hp2⟩ := name_it l[k].2
      rw [hp1.out] at ha1 hst s1 s2; rw [hp2.out] at ha2 hst s3 s4
      rw [← hbr.cell (p := ⟨ga, _, none⟩) hga] at ha1 ha2
      obtain ⟨N, hN⟩ := name_it (totS (l.take k))
      rw [hN.out] at hst t1 t2 ⊢
      have hbr1 := hbr.alloc hbr.size (.cells #[.int .i64 p1, .int .i64 p2] 33)
      by_cases hlt2 : p1 < p2
      · rw [if_pos hlt2] at hst
        have HST := Lib.hid hst
        clear hst
        go_wp2_with fail
        all_goals (try (exfalso; omega))
        go_roundw
        case rel => exact ⟨k + 1, by omega, by go_num, by rw [HST.out], hbr1⟩
        case measure => simp [intOf]; omega
      · rw [if_neg hlt2] at hst
        have HST := Lib.hid hst
        clear hst
        go_wp2_with fail
        all_goals (try (exfalso; omega))
        go_roundw
        case rel => exact ⟨k + 1, by omega, by go_num, by rw [HST.out]; simp, hbr1⟩
        case measure => simp [intOf]; omega
    · obtain rfl : k = l.length := by omega
      rw [List.take_length]
      rw [hR.out]
      go_wp2_with fail
      go_ret
      exact ⟨rfl, hbr⟩

set_option maxRecDepth 100000 in
theorem rtotal_any (v : Value) (l : List Sp) (w : World) (h : SpanSl w v l) (nl : 3 * l.length ≤ 1048576) (hsm : smallL l = true) :
    Calls Tryd.prog 40 #[v] w fun e w' => e = .returned (.int .i64 (totS l)) ∧ Below w.heap.size w w' := by
  obtain ⟨R, hR⟩ := name_it (totS l)
  rw [hR.out]
  obtain ⟨a, cap, rfl, hc⟩ := h
  have HA := Lib.hid hc
  have HSM := Lib.hid hsm
  clear hc hsm
  go_enter Tryd.func40, Tryd.ntmps40
  go_wp2_with fail
  go_loopw [3, 4] (fun n i wr => ∃ k : Nat, k ≤ l.length ∧ i = .int .i64 k ∧ n = .int .i64 (totS (l.take k)) ∧ Below w.heap.size w wr) (fun _ i _ => l.length - (intOf i).toNat)
  case atStart => exact ⟨0, Nat.zero_le _, rfl, rfl, Below.refl _ _⟩
  case round =>
    obtain ⟨k, hk, rfl, rfl, hbr⟩ := hrel
    by_cases hlt : k < l.length
    · obtain ⟨ga, oa, rfl, hga, ha1, ha2⟩ := HA.out k hlt
      obtain ⟨s1, s2, s3, s4⟩ := smallL_at hlt HSM.out
      obtain ⟨t1, t2⟩ := totS_bd HSM.out k hk
      have hst := totS_take hlt
      unfold spanN at hst
      obtain ⟨p1, hp1⟩ := name_it l[k].1
      obtain ⟨p2, hp2⟩ := name_it l[k].2
      rw [hp1.out] at ha1 hst s1 s2; rw [hp2.out] at ha2 hst s3 s4
      rw [← hbr.cell (p := ⟨ga, _, none⟩) hga] at ha1 ha2
      obtain ⟨N, hN⟩ := name_it (totS (l.take k))
      rw [hN.out] at hst t1 t2 ⊢
      have b1 : (0 : Int) ≤ (k : Int) := by omega
      have b2 : (k : Int) < (l.length : Int) := by omega
      have w1 : IntKind.i64.wrap (p2 - p1) = p2 - p1 := IntWalk.i64_in _ (by omega)
      have w2 : IntKind.i64.wrap (N + (p2 - p1)) = N + (p2 - p1) := IntWalk.i64_in _ (by omega)
      by_cases hlt2 : p1 < p2
      · rw [if_pos hlt2] at hst
        have HST := Lib.hid hst
        clear hst
        go_wp2_with fail
        go_quiet (fail)
        go_wp2_with fail
        all_goals (try (exfalso; omega))
        go_quiet (fail)
        go_wp2_with fail
        go_roundw
        case rel => exact ⟨k + 1, by omega, by go_num, by rw [HST.out], below_drewN hbr _⟩
        case measure => simp [intOf]; omega
      · rw [if_neg hlt2] at hst
        have HST := Lib.hid hst
        clear hst
        go_wp2_with fail
        go_quiet (fail)
        go_wp2_with fail
        all_goals (try (exfalso; omega))
        go_roundw
        case rel => exact ⟨k + 1, by omega, by go_num, by rw [HST.out]; simp, below_drewN hbr _⟩
        case measure => simp [intOf]; omega
    · obtain rfl : k = l.length := by omega
      rw [List.take_length]
      rw [hR.out]
      go_wp2_with fail
      go_ret
      exact ⟨rfl, hbr⟩

set_option maxRecDepth 100000 in
theorem lawMerges_any (v : Value) (l : List Sp) (w : World) (hE : Env w) (h : SpanSl w v l) (nl : 3 * l.length ≤ 1048576) :
    Calls Tryd.prog 13 #[v] w fun e w' => e = .returned (.bool true) ∧ Below w.heap.size w w' := by
  have HE := Lib.hid hE; clear hE
  have HS := Lib.hid h
  have HSP := Lib.hid (spans_any v l w h (by omega))
  have hln := (rmergeS_norm l).2.2
  obtain ⟨a, cap, hva, _⟩ := h
  subst hva
  have hsm := fun wx hx => small_any (.slice a l.length cap) l wx hx nl
  have hto := fun wx hx hs => total_any (.slice a l.length cap) l wx hx nl hs
  have hrt := fun wx u hx hs => rtotal_any u l wx hx nl hs
  have hme := fun wx hx => merge_any (.slice a l.length cap) l wx hx (by omega)
  have hrm := fun wx u hx => rmerge_any u l wx hx (by omega)
  obtain ⟨b, hb⟩ := name_it (smallL l)
  obtain ⟨T, hT⟩ := name_it (totS l)
  obtain ⟨M, hM⟩ := name_it (rmergeS l)
  rw [hb.out] at hsm hto hrt
  rw [hT.out] at hto hrt
  rw [hM.out] at hme hrm hln
  have HSM := Lib.hid hsm
  have HTO := Lib.hid hto
  have HRT := Lib.hid hrt
  have HME := Lib.hid hme
  have HRM := Lib.hid hrm
  clear hsm hto hrt hme hrm hb hT hM
  go_enter Tryd.func13, Tryd.ntmps13
  go_wp2_with fail
  refine HSP.out.mono ?_; rintro e w1 ⟨u, rfl, hrow, d1⟩
  obtain ⟨ua, ucap, hu⟩ := spanRow_slice hrow
  subst hu
  have HT1 := Lib.hid (spanSl_of_row hrow)
  have HS1 := Lib.hid (spanSl_keep HS.out d1)
  clear hrow HSP
  go_wp2_with fail
  refine (HSM.out _ HS1.out).mono ?_; rintro e w2 ⟨rfl, hb2⟩
  have HT2 := Lib.hid (spanSl_keep HT1.out hb2)
  have HS2 := Lib.hid (spanSl_keep HS1.out hb2)
  have d2 := d1.trans (hb2.mono d1.size)
  clear hb2 HT1 HS1
  cases b
  · have HE2 := Lib.hid (HE.out.next d2)
    clear HTO HRT
    go_wp2_with fail
    refine (awake_any _ HE2.out).mono ?_; rintro e w3 ⟨rfl, hb3⟩
    have HT3 := Lib.hid (spanSl_keep HT2.out hb3)
    have HS3 := Lib.hid (spanSl_keep HS2.out hb3)
    have d3 := d2.trans (hb3.mono d2.size)
    clear hb3 HT2 HS2 d2
    go_wp2_with fail
    refine (HME.out _ HS3.out).mono ?_; rintro e w4 ⟨m1, rfl, hr4, hb4⟩
    obtain ⟨ma, mc, hm1⟩ := spanRow_slice hr4
    subst hm1
    have HM4 := Lib.hid (spanSl_of_row hr4)
    have HT4 := Lib.hid (spanSl_keep HT3.out hb4)
    have HS4 := Lib.hid (spanSl_keep HS3.out hb4)
    have d4 := d3.trans (hb4.mono d3.size)
    clear hr4 hb4 HT3 HS3 d3
    go_wp2_with fail
    refine (HRM.out _ _ HT4.out).mono ?_; rintro e w5 ⟨m2, rfl, hr5, hb5⟩
    obtain ⟨na, nc, hm2⟩ := spanRow_slice hr5
    subst hm2
    have HN5 := Lib.hid (spanSl_of_row hr5)
    have HM5 := Lib.hid (spanSl_keep HM4.out hb5)
    have HT5 := Lib.hid (spanSl_keep HT4.out hb5)
    have HS5 := Lib.hid (spanSl_keep HS4.out hb5)
    have d5 := d4.trans (hb5.mono d4.size)
    clear hr5 hb5 HT4 HS4 HM4 d4
    go_wp2_with fail
    refine (lsame_any _ _ M M _ HM5.out HN5.out (by unfold maxLen; omega) (by unfold maxLen; omega)).mono ?_; rintro e w6 ⟨rfl, hb6⟩
    rw [decide_eq_true rfl]
    have HT6 := Lib.hid (spanSl_keep HT5.out hb6)
    have HS6 := Lib.hid (spanSl_keep HS5.out hb6)
    have d6 := d5.trans (hb6.mono d5.size)
    clear hb6 HT5 HS5 d5
    go_wp2_with fail
    refine (lsame_any _ _ l l _ HS6.out HT6.out (by unfold maxLen; omega) (by unfold maxLen; omega)).mono ?_; rintro e w7 ⟨rfl, hb7⟩
    rw [decide_eq_true rfl]
    have d7 := d6.trans (hb7.mono d6.size)
    go_wp2_with fail
    go_ret
    exact ⟨rfl, d7⟩
  · go_wp2_with fail
    refine (HTO.out _ HS2.out (by trivial)).mono ?_; rintro e wa ⟨rfl, hba⟩
    have HTa := Lib.hid (spanSl_keep HT2.out hba)
    have HSa := Lib.hid (spanSl_keep HS2.out hba)
    have da := d2.trans (hba.mono d2.size)
    clear hba HT2 HS2 d2
    go_wp2_with fail
    refine (HRT.out _ _ HTa.out (by trivial)).mono ?_; rintro e wb ⟨rfl, hbb⟩
    have HT2 := Lib.hid (spanSl_keep HTa.out hbb)
    have HS2 := Lib.hid (spanSl_keep HSa.out hbb)
    have d2 := da.trans (hbb.mono da.size)
    have HE2 := Lib.hid (HE.out.next d2)
    clear hbb HTa HSa da HTO HRT
    go_wp2_with fail
    all_goals (try (exfalso; omega))
    refine (awake_any _ HE2.out).mono ?_; rintro e w3 ⟨rfl, hb3⟩
    have HT3 := Lib.hid (spanSl_keep HT2.out hb3)
    have HS3 := Lib.hid (spanSl_keep HS2.out hb3)
    have d3 := d2.trans (hb3.mono d2.size)
    clear hb3 HT2 HS2 d2
    go_wp2_with fail
    refine (HME.out _ HS3.out).mono ?_; rintro e w4 ⟨m1, rfl, hr4, hb4⟩
    obtain ⟨ma, mc, hm1⟩ := spanRow_slice hr4
    subst hm1
    have HM4 := Lib.hid (spanSl_of_row hr4)
    have HT4 := Lib.hid (spanSl_keep HT3.out hb4)
    have HS4 := Lib.hid (spanSl_keep HS3.out hb4)
    have d4 := d3.trans (hb4.mono d3.size)
    clear hr4 hb4 HT3 HS3 d3
    go_wp2_with fail
    refine (HRM.out _ _ HT4.out).mono ?_; rintro e w5 ⟨m2, rfl, hr5, hb5⟩
    obtain ⟨na, nc, hm2⟩ := spanRow_slice hr5
    subst hm2
    have HN5 := Lib.hid (spanSl_of_row hr5)
    have HM5 := Lib.hid (spanSl_keep HM4.out hb5)
    have HT5 := Lib.hid (spanSl_keep HT4.out hb5)
    have HS5 := Lib.hid (spanSl_keep HS4.out hb5)
    have d5 := d4.trans (hb5.mono d4.size)
    clear hr5 hb5 HT4 HS4 HM4 d4
    go_wp2_with fail
    refine (lsame_any _ _ M M _ HM5.out HN5.out (by unfold maxLen; omega) (by unfold maxLen; omega)).mono ?_; rintro e w6 ⟨rfl, hb6⟩
    rw [decide_eq_true rfl]
    have HT6 := Lib.hid (spanSl_keep HT5.out hb6)
    have HS6 := Lib.hid (spanSl_keep HS5.out hb6)
    have d6 := d5.trans (hb6.mono d5.size)
    clear hb6 HT5 HS5 d5
    go_wp2_with fail
    refine (lsame_any _ _ l l _ HS6.out HT6.out (by unfold maxLen; omega) (by unfold maxLen; omega)).mono ?_; rintro e w7 ⟨rfl, hb7⟩
    rw [decide_eq_true rfl]
    have d7 := d6.trans (hb7.mono d6.size)
    go_wp2_with fail
    go_ret
    exact ⟨rfl, d7⟩
end Go.Proofs.YtnodboggemggmaaDoor
