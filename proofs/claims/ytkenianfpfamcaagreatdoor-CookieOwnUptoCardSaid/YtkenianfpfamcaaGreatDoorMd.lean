/- What the variables of stamp and of strconv hold. Contracts: leap years, months' days, years' days, the number of a day (program and reference); every argument. Contracts: the number of a day (program and reference). Contract of stamp's Split: the date of a moment. A block whose cells are known: behind a call that leaves old memory alone, behind a store. Contract of the document's Split: the date of a moment. Contracts of the document's digits, names and pattern. -/
import Derived.Test.YtkenianfpfamcaaGreatDoorMc
import Derived.Test.YtkenianfpfamcaaGreatDoorMa
import Derived.Lib.LaidTab
import Derived.Lib.ItoaNum
namespace Go.Proofs.YtkenianfpfamcaaGreatDoor
open Go Go.RowKit
set_option maxHeartbeats 1000000

theorem gPow : Tryz.prog.globalNamed "internal/strconv.uint64pow10" = some 6 := by kernel_rfl
/-- what the variables of stamp and of strconv hold -/
structure EnvS (w : World) : Prop where
  n : 9 ≤ w.heap.size
  pow : Lib.TabIs Tryz.prog w "internal/strconv.uint64pow10" .u64 Lib.pow10Tab
  week : ∀ j, j < 7 → w.cell? ⟨0, j, none⟩ = some (.string (bs (Stm.longN.getD j [])))
  mon : ∀ j, j < 12 → w.cell? ⟨1, j, none⟩ = some (.string (bs (Stm.monN.getD j [])))
theorem EnvS.next {w w' : World} (h : EnvS w) (hb : Below w.heap.size w w') : EnvS w' where
  n := Nat.le_trans h.n hb.size
  pow := var?_below hb gPow (Nat.lt_of_lt_of_le (by decide) h.n) h.pow
  week j hj := by rw [hb.cell (p := ⟨0, j, none⟩) (Nat.lt_of_lt_of_le (by show 0 < 9; decide) h.n)]; exact h.week j hj
  mon j hj := by rw [hb.cell (p := ⟨1, j, none⟩) (Nat.lt_of_lt_of_le (by show 1 < 9; decide) h.n)]; exact h.mon j hj
theorem EnvS.alloc {w : World} (h : EnvS w) (o : Obj) : EnvS (w.alloc o) := h.next ((Below.refl _ _).alloc (Nat.le_refl _) _)
end Go.Proofs.YtkenianfpfamcaaGreatDoor
namespace Go.Proofs.YtkenianfpfamcaaGreatDoor
open Go Go.RowKit
set_option maxHeartbeats 1000000

theorem leap_any (y : Int) (w : World) :
    Calls Tryz.prog 214 #[.int .i64 y] w fun e w' => e = .returned (.bool (Cal.leapB y)) ∧ w = w' := by
  obtain ⟨R, hR⟩ := name_it (Cal.leapB y)
  rw [hR.out]
  go_enter Tryz.func214, Tryz.ntmps214
  go_wp2
  all_goals go_ret
  all_goals
    have a4 := Cal.tmod0 y 4
    have a100 := Cal.tmod0 y 100
    have a400 := Cal.tmod0 y 400
    exact ⟨ret_bool (by rw [← hR.out, Cal.leapB_iff, Bool.eq_iff_iff]; simp; omega), rfl⟩
theorem rleap_any (y : Int) (w : World) :
    Calls Tryz.prog 201 #[.int .i64 y] w fun e w' => e = .returned (.bool (Cal.leapB y)) ∧ w = w' := by
  obtain ⟨R, hR⟩ := name_it (Cal.leapB y)
  rw [hR.out]
  go_enter Tryz.func201, Tryz.ntmps201
  go_wp2
  all_goals go_ret
  all_goals
    have a4 := Cal.tmod0 y 4
    have a100 := Cal.tmod0 y 100
    have a400 := Cal.tmod0 y 400
    exact ⟨ret_bool (by rw [← hR.out, Cal.leapB_iff, Bool.eq_iff_iff]; (try simp only [beq_iff_eq, beq_eq_false_iff_ne, ne_eq] at *); simp; omega), rfl⟩

theorem mdays_any (y m : Int) (w : World) :
    Calls Tryz.prog 172 #[.int .i64 y, .int .i64 m] w fun e w' => e = .returned (.int .i64 (Cal.mdays y m)) ∧ w = w' := by
  obtain ⟨R, hR⟩ := name_it (Cal.mdays y m)
  rw [hR.out]
  go_enter Tryz.func172, Tryz.ntmps172
  go_wp2_with (go_at_call 214; refine (leap_any _ _).mono ?_; rintro e w' ⟨rfl, rfl⟩)
  all_goals go_ret
  all_goals exact ⟨ret_int (by rw [← hR.out]; (try simp only [beq_iff_eq, beq_eq_false_iff_ne, ne_eq] at *); simp [Cal.mdays, *]), rfl⟩
theorem rmdays_any (y m : Int) (w : World) :
    Calls Tryz.prog 156 #[.int .i64 y, .int .i64 m] w fun e w' => e = .returned (.int .i64 (Cal.mdays y m)) ∧ Below w.heap.size w w' := by
  obtain ⟨R, hR⟩ := name_it (Cal.mdays y m)
  rw [hR.out]
  by_cases hm : m < 1 ∨ 12 < m
  · rcases hm with hm | hm
    all_goals
      go_enter Tryz.func156, Tryz.ntmps156
      go_wp2_with fail
      all_goals go_ret
      all_goals exact ⟨ret_int (by rw [← hR.out]; (try simp only [beq_iff_eq, beq_eq_false_iff_ne, ne_eq] at *); unfold Cal.mdays; rw [if_neg (by omega), if_neg (by omega), if_neg (by omega)]), Below.refl _ _⟩
  · have h12 : m = 1 ∨ m = 2 ∨ m = 3 ∨ m = 4 ∨ m = 5 ∨ m = 6 ∨ m = 7 ∨ m = 8 ∨ m = 9 ∨ m = 10 ∨ m = 11 ∨ m = 12 := by omega
    clear hm
    rcases h12 with rfl | rfl | rfl | rfl | rfl | rfl | rfl | rfl | rfl | rfl | rfl | rfl
    all_goals
      go_enter Tryz.func156, Tryz.ntmps156
      go_wp2_with (go_at_call 201; refine (rleap_any _ _).mono ?_; rintro e w' ⟨rfl, rfl⟩)
      all_goals go_ret
      all_goals exact ⟨ret_int (by rw [← hR.out]; (try simp only [beq_iff_eq, beq_eq_false_iff_ne, ne_eq] at *); simp [Cal.mdays, *]), by first | exact Below.refl _ _ | exact (Below.refl _ _).alloc (Nat.le_refl _) _⟩
theorem ydays_any (y : Int) (w : World) (h1 : 1 ≤ y) (h2 : y ≤ 10001) :
    Calls Tryz.prog 171 #[.int .i64 y] w fun e w' => e = .returned (.int .i64 (Cal.dby y)) ∧ w = w' := by
  obtain ⟨R, hR⟩ := name_it (Cal.dby y)
  rw [hR.out]
  go_enter Tryz.func171, Tryz.ntmps171
  go_wp2_with fail
  go_ret
  exact ⟨ret_int (by rw [← hR.out]; rfl), rfl⟩
theorem rydays_any (y : Int) (w : World) :
    Calls Tryz.prog 155 #[.int .i64 y] w fun e w' => e = .returned (.int .i64 (Cal.ydays y)) ∧ w = w' := by
  obtain ⟨R, hR⟩ := name_it (Cal.ydays y)
  rw [hR.out]
  go_enter Tryz.func155, Tryz.ntmps155
  go_wp2_with (go_at_call 201; refine (rleap_any _ _).mono ?_; rintro e w' ⟨rfl, rfl⟩)
  all_goals go_ret
  all_goals exact ⟨ret_int (by rw [← hR.out]; simp [Cal.ydays, *]), rfl⟩
theorem ismoment_any (m : Int) (w : World) :
    Calls Tryz.prog 143 #[.int .i64 m] w fun e w' => e = .returned (.bool (decide (-62135596800 ≤ m ∧ m ≤ 253402300799))) ∧ w = w' := by
  obtain ⟨R, hR⟩ := name_it (decide (-62135596800 ≤ m ∧ m ≤ 253402300799))
  rw [hR.out]
  go_enter Tryz.func143, Tryz.ntmps143
  go_wp2_with fail
  all_goals go_ret
  all_goals exact ⟨ret_bool (by rw [← hR.out, Bool.eq_iff_iff]; simp; omega), rfl⟩
def wday (n : Int) : Int := (n + 3) % 7
theorem wday_t (n : Int) : (n.tmod 7 + 7) % 7 = n % 7 ∧ -7 < n.tmod 7 ∧ n.tmod 7 < 7 := by
  have h := Int.tmod_def n 7
  have k : n.tdiv 7 = if 0 ≤ n then n / 7 else -((-n) / 7) := by
    split
    · exact Int.tdiv_eq_ediv_of_nonneg (by omega)
    · have := Int.neg_tdiv (a := -n) (b := 7)
      rw [Int.neg_neg] at this
      rw [this, Int.tdiv_eq_ediv_of_nonneg (by omega)]
  split at k <;> omega
theorem weekday_any (n : Int) (w : World) (h1 : -1000000 ≤ n) (h2 : n ≤ 10000000) :
    Calls Tryz.prog 192 #[.int .i64 n] w fun e w' => e = .returned (.int .i64 (wday n)) ∧ w = w' := by
  obtain ⟨R, hR⟩ := name_it (wday n)
  rw [hR.out]
  have ht := wday_t (n + 3)
  have hb1 := ht.2.1
  have hb2 := ht.2.2
  have HT := Lib.hid ht.1; clear ht
  go_enter Tryz.func192, Tryz.ntmps192
  go_wp2_with fail
  go_ret
  exact ⟨ret_int (by rw [← hR.out]; exact HT.out), rfl⟩
theorem rweekday_any (n : Int) (w : World) (h1 : -1000000 ≤ n) (h2 : n ≤ 10000000) :
    Calls Tryz.prog 154 #[.int .i64 n] w fun e w' => e = .returned (.int .i64 (wday n)) ∧ w = w' := by
  obtain ⟨R, hR⟩ := name_it (wday n)
  rw [hR.out]
  have ht := wday_t (n + 3)
  have hb1 := ht.2.1
  have hb2 := ht.2.2
  have HT := Lib.hid ht.1; clear ht
  go_enter Tryz.func154, Tryz.ntmps154
  go_wp2_with fail
  go_ret
  exact ⟨ret_int (by rw [← hR.out]; exact HT.out), rfl⟩
end Go.Proofs.YtkenianfpfamcaaGreatDoor
namespace Go.Proofs.YtkenianfpfamcaaGreatDoor
open Go Go.RowKit
set_option maxHeartbeats 1000000

def pairII (a b : Int) : Value := .tuple #[.int .i64 a, .int .i64 b]
theorem days_any (y m d : Int) (w : World) :
    Calls Tryz.prog 191 #[.int .i64 y, .int .i64 m, .int .i64 d] w fun e w' => e = .returned (.tuple #[.int .i64 (Cal.daysN y m d), .int .i64 (Cal.daysE y m d)]) ∧ w = w' := by
  obtain ⟨N, hN⟩ := name_it (Cal.daysN y m d)
  obtain ⟨E, hE⟩ := name_it (Cal.daysE y m d)
  rw [hN.out, hE.out]
  have hmd := Cal.mdays_lo y m
  have hout : ¬ (1 ≤ y ∧ y ≤ 9999 ∧ 1 ≤ d ∧ d ≤ Cal.mdays y m) → Hid (N = 0 ∧ E = 41) := by
    intro h
    have : Cal.daysOk y m d = false := by unfold Cal.daysOk; exact decide_eq_false h
    rw [← hN.out, ← hE.out]; unfold Cal.daysN Cal.daysE; rw [this]; exact ⟨rfl, rfl⟩
  by_cases h : 1 ≤ y ∧ y ≤ 9999 ∧ 1 ≤ d ∧ d ≤ Cal.mdays y m
  · have hmi := Cal.mdays_in y m (by omega)
    have hok : Hid (N = Cal.daysOf y m d ∧ E = 0) := by
      have : Cal.daysOk y m d = true := by unfold Cal.daysOk; exact decide_eq_true h
      rw [← hN.out, ← hE.out]; unfold Cal.daysN Cal.daysE; rw [this]; exact ⟨rfl, rfl⟩
    obtain ⟨h1, h2, h3, h4⟩ := h
    obtain ⟨h5, h6⟩ := hmi
    clear hout hN hE
    have hdb := Cal.dby_bd y (by omega) (by omega)
    go_enter Tryz.func191, Tryz.ntmps191
    go_wp2_with (first | (go_at_call 172; refine (mdays_any _ _ _).mono ?_; rintro e w' ⟨rfl, rfl⟩) | (go_at_call 171; refine (ydays_any _ _ (by omega) (by omega)).mono ?_; rintro e w' ⟨rfl, rfl⟩))
    go_loop [8, 9] (fun n k => ∃ j : Int, 1 ≤ j ∧ j ≤ m ∧ k = .int .i64 j ∧ n = .int .i64 (Cal.dby y - 719162 + d - 1 + Cal.cum y j)) (fun _ k => (12 - intOf k).toNat)
    case atStart => exact ⟨1, by omega, by omega, rfl, by rw [Cal.cum_one]; go_num⟩
    case round =>
      obtain ⟨j, j1, j2, rfl, rfl⟩ := hrel
      have hc := Cal.cum_bd y j
      have hm1 := Cal.mdays_lo y j
      by_cases hj : j < m
      · have hs := Lib.hid (Cal.cum_succ y j (by omega) (by omega))
        go_wp2_with (first | (go_at_call 172; refine (mdays_any _ _ _).mono ?_; rintro e w' ⟨rfl, rfl⟩))
        go_round
        case rel => exact ⟨j + 1, by omega, by omega, rfl, by rw [hs.out]; go_num⟩
        case measure => simp [intOf]; omega
      · obtain rfl : j = m := by omega
        go_wp2_with fail
        go_ret2
        exact ⟨by rw [hok.out.1, hok.out.2]; unfold Cal.daysOf; congr 3; simp; omega, rfl⟩
  · have ho := hout h
    clear hout hN hE
    have hcase : y < 1 ∨ (1 ≤ y ∧ 9999 < y) ∨ (1 ≤ y ∧ y ≤ 9999 ∧ d < 1) ∨ (1 ≤ y ∧ y ≤ 9999 ∧ 1 ≤ d ∧ Cal.mdays y m < d) := by omega
    clear h
    rcases hcase with h | ⟨h, h'⟩ | ⟨h, h', h''⟩ | ⟨h, h', h'', h3⟩
    all_goals
      go_enter Tryz.func191, Tryz.ntmps191
      go_wp2_with (first | (go_at_call 172; refine (mdays_any _ _ _).mono ?_; rintro e w' ⟨rfl, rfl⟩))
      all_goals go_ret2
      all_goals exact ⟨by rw [ho.out.1, ho.out.2]; rfl, rfl⟩

theorem rdays_any (y m d : Int) (w : World) :
    Calls Tryz.prog 153 #[.int .i64 y, .int .i64 m, .int .i64 d] w fun e w' => e = .returned (.tuple #[.int .i64 (Cal.daysN y m d), .int .i64 (Cal.daysE y m d)]) ∧ Below w.heap.size w w' := by
  have s1 : (0 : Int) ≤ 1 := by omega
  have s2 : (0 : Int) ≤ 2 := by omega
  have s3 : (0 : Int) ≤ 3 := by omega
  obtain ⟨N, hN⟩ := name_it (Cal.daysN y m d)
  obtain ⟨E, hE⟩ := name_it (Cal.daysE y m d)
  rw [hN.out, hE.out]
  have hmd := Cal.mdays_lo y m
  have hout : ¬ (1 ≤ y ∧ y ≤ 9999 ∧ 1 ≤ d ∧ d ≤ Cal.mdays y m) → Hid (N = 0 ∧ E = 41) := by
    intro h
    have : Cal.daysOk y m d = false := by unfold Cal.daysOk; exact decide_eq_false h
    rw [← hN.out, ← hE.out]; unfold Cal.daysN Cal.daysE; rw [this]; exact ⟨rfl, rfl⟩
  by_cases h : 1 ≤ y ∧ y ≤ 9999 ∧ 1 ≤ d ∧ d ≤ Cal.mdays y m
  · have hmi := Cal.mdays_in y m (by omega)
    have hok : Hid (N = Cal.daysOf y m d ∧ E = 0) := by
      have : Cal.daysOk y m d = true := by unfold Cal.daysOk; exact decide_eq_true h
      rw [← hN.out, ← hE.out]; unfold Cal.daysN Cal.daysE; rw [this]; exact ⟨rfl, rfl⟩
    obtain ⟨h1, h2, h3, h4⟩ := h
    obtain ⟨h5, h6⟩ := hmi
    clear hout hN hE
    have hdb := Cal.dby_bd y (by omega) (by omega)
    go_enter Tryz.func153, Tryz.ntmps153
    go_wp2_with fail
    refine (rmdays_any _ _ _).mono ?_; rintro e w1 ⟨rfl, hb1⟩
    go_wp2_with fail
    go_loopw [8, 9] (fun n k wr => ∃ j : Int, 1 ≤ j ∧ j ≤ m ∧ k = .int .i64 j ∧ n = .int .i64 (d - 1 + Cal.cum y j) ∧ Below w.heap.size w wr) (fun _ k _ => (12 - intOf k).toNat)
    case atStart => exact ⟨1, by omega, by omega, rfl, by rw [Cal.cum_one]; go_num, hb1⟩
    case round =>
      obtain ⟨j, j1, j2, rfl, rfl, hbr⟩ := hrel
      have hc := Cal.cum_bd y j
      have hm1 := Cal.mdays_lo y j
      by_cases hj : j < m
      · have hs := Lib.hid (Cal.cum_succ y j (by omega) (by omega))
        go_wp2_with (first | (go_at_call 156; refine (rmdays_any _ _ _).mono ?_; rintro e w2 ⟨rfl, hb2⟩))
        go_roundw
        case rel => exact ⟨j + 1, by omega, by omega, rfl, by rw [hs.out]; go_num, hbr.trans (Below.mono ‹Below wr.heap.size wr _› hbr.size)⟩
        case measure => simp [intOf]; omega
      · obtain rfl : j = m := by omega
        go_wp2_with fail
        go_loopw [8, 10] (fun n k wr => ∃ x : Int, 1970 ≤ x ∧ (x ≤ y ∨ x = 1970) ∧ k = .int .i64 x ∧ n = .int .i64 (d - 1 + Cal.cum y j + (Cal.dby x - 719162)) ∧ Below w.heap.size w wr) (fun _ k _ => (10000 - intOf k).toNat)
        case atStart => exact ⟨1970, by omega, by omega, rfl, by rw [Cal.dby70]; go_num, hbr⟩
        case round =>
          obtain ⟨x, x1, x2, rfl, rfl, hbx⟩ := hrel
          have hx := Cal.dby_bd x (by omega) (by omega)
          have hyx := Cal.ydays_bd x
          by_cases hxy : x < y
          · have hs := Lib.hid (Cal.dby_succ x)
            go_wp2_with (first | (go_at_call 155; refine (rydays_any _ _).mono ?_; rintro e w2 ⟨rfl, rfl⟩))
            go_roundw
            case rel => exact ⟨x + 1, by omega, by omega, rfl, by rw [hs.out]; go_num, hbx⟩
            case measure => simp [intOf]; omega
          · have hxy' : (y < 1970 ∧ x = 1970) ∨ x = y := by omega
            go_wp2_with fail
            go_loopw [8, 11] (fun n k wr => ∃ z : Int, (y < 1970 → y ≤ z) ∧ (y < 1970 → z ≤ 1970) ∧ (1970 ≤ y → z = y) ∧ k = .int .i64 z ∧ n = .int .i64 (if y < 1970 then d - 1 + Cal.cum y j - (Cal.dby z - Cal.dby y) else d - 1 + Cal.cum y j + (Cal.dby y - 719162)) ∧ Below w.heap.size w wr) (fun _ k _ => (10000 - intOf k).toNat)
            case atStart =>
              refine ⟨y, by omega, by omega, by omega, rfl, ?_, hbx⟩
              split
              · obtain rfl : x = 1970 := by omega
                rw [Cal.dby70]; go_num
              · obtain rfl : x = y := by omega
                rfl
            case round =>
              obtain ⟨z, z1, z2, z3, rfl, rfl, hbz⟩ := hrel
              by_cases hy : y < 1970
              · have z1 := z1 hy
                have z2 := z2 hy
                clear z3
                rw [if_pos hy] at *
                have hz := Cal.dby_bd z (by omega) (by omega)
                have hyz := Cal.ydays_bd z
                by_cases hzy : z < 1970
                · have hs := Lib.hid (Cal.dby_succ z)
                  go_wp2_with (first | (go_at_call 155; refine (rydays_any _ _).mono ?_; rintro e w2 ⟨rfl, rfl⟩))
                  go_roundw
                  case rel => exact ⟨z + 1, by omega, by omega, by omega, rfl, by rw [if_pos hy, hs.out]; go_num, hbz⟩
                  case measure => simp [intOf]; omega
                · obtain rfl : z = 1970 := by omega
                  go_wp2_with fail
                  go_ret2
                  exact ⟨by rw [hok.out.1, hok.out.2]; unfold Cal.daysOf; rw [Cal.dby70]; congr 3; simp; omega, hbz⟩
              · obtain rfl := z3 (by omega)
                rw [if_neg hy] at *
                go_wp2_with fail
                go_ret2
                exact ⟨by rw [hok.out.1, hok.out.2]; unfold Cal.daysOf; congr 3; simp; omega, hbz⟩
  · have ho := hout h
    clear hout hN hE
    have hcase : y < 1 ∨ (1 ≤ y ∧ 9999 < y) ∨ (1 ≤ y ∧ y ≤ 9999 ∧ d < 1) ∨ (1 ≤ y ∧ y ≤ 9999 ∧ 1 ≤ d ∧ Cal.mdays y m < d) := by omega
    clear h
    rcases hcase with h | ⟨h, h'⟩ | ⟨h, h', h''⟩ | ⟨h, h', h'', h3⟩
    all_goals
      go_enter Tryz.func153, Tryz.ntmps153
      go_wp2_with (first | (go_at_call 156; refine (rmdays_any _ _ _).mono ?_; rintro e w1 ⟨rfl, hb1⟩))
      all_goals go_ret2
      all_goals exact ⟨by rw [ho.out.1, ho.out.2]; rfl, by first | assumption | exact Below.refl _ _⟩
end Go.Proofs.YtkenianfpfamcaaGreatDoor
namespace Go.Proofs.YtkenianfpfamcaaGreatDoor
open Go Go.RowKit
set_option maxHeartbeats 2000000

def dateV (y mo d h mi s wd : Int) : Value := .agg #[.int .i64 y, .int .i64 mo, .int .i64 d, .int .i64 h, .int .i64 mi, .int .i64 s, .int .i64 wd]
def splitN (m : Int) : Int := (m + 62135596800) / 86400
def splitR (m : Int) : Int := (m + 62135596800) % 86400
def isMom (m : Int) : Bool := decide (-62135596800 ≤ m ∧ m ≤ 253402300799)
def splitD (m : Int) : Value :=
  if isMom m = true then dateV (Cal.yOf (splitN m)) (Cal.mOf (splitN m)) (Cal.dOf (splitN m)) (splitR m / 3600) (splitR m / 60 % 60) (splitR m % 60) (splitN m % 7) else dateV 0 0 0 0 0 0 0
def splitE (m : Int) : Int := if isMom m = true then 0 else 40

set_option maxRecDepth 100000 in
theorem split_any (m : Int) (w : World) :
    Calls Tryz.prog 138 #[.int .i64 m] w fun e w' => e = .returned (.tuple #[splitD m, .int .i64 (splitE m)]) ∧ Below w.heap.size w w' := by
  obtain ⟨D, hD⟩ := name_it (splitD m)
  obtain ⟨E, hE⟩ := name_it (splitE m)
  rw [hD.out, hE.out]
  by_cases hm : -62135596800 ≤ m ∧ m ≤ 253402300799
  · have hok : isMom m = true := by unfold isMom; exact decide_eq_true hm
    have hdec : decide (-62135596800 ≤ m ∧ m ≤ 253402300799) = true := decide_eq_true hm
    obtain ⟨m1, m2⟩ := hm
    obtain ⟨n, hn⟩ := name_it (splitN m)
    obtain ⟨r, hr⟩ := name_it (splitR m)
    have hres : Hid (D = dateV (Cal.yOf n) (Cal.mOf n) (Cal.dOf n) (r / 3600) (r / 60 % 60) (r % 60) (n % 7) ∧ E = 0) := by
      rw [← hD.out, ← hE.out]; unfold Hid splitD splitE; rw [if_pos hok, if_pos hok, hn.out, hr.out]; exact ⟨rfl, rfl⟩
    clear hD hE
    have n0 : 0 ≤ n := by rw [← hn.out]; unfold splitN; omega
    have n1 : n < 3652059 := by rw [← hn.out]; unfold splitN; omega
    have r0 : 0 ≤ r := by rw [← hr.out]; unfold splitR; omega
    have r1 : r < 86400 := by rw [← hr.out]; unfold splitR; omega
    have hnd : (m + 62135596800) / 86400 = n := hn.out
    have hrd : (m + 62135596800) % 86400 = r := hr.out
    have hyo := Cal.yOf_ok n0 n1
    have hdate := Cal.isDate_of n0 n1
    obtain ⟨Y, hY⟩ := name_it (Cal.yOf n)
    obtain ⟨M, hM⟩ := name_it (Cal.mOf n)
    obtain ⟨d, hd⟩ := name_it (Cal.dOf n)
    rw [hY.out] at hyo hdate
    rw [hM.out, hd.out] at hdate
    rw [hY.out, hM.out, hd.out] at hres
    obtain ⟨y1, y2, y3, y4⟩ := hyo
    go_enter Tryz.func138, Tryz.ntmps138
    go_wp2_with fail
    refine (ismoment_any _ _).mono ?_; rintro e w1 ⟨rfl, rfl⟩
    rw [hdec]
    have hg := Cal.dby_guess n n0
    have hgY : n / 366 + 1 ≤ Y := by
      rcases Int.lt_or_le Y (n / 366 + 1) with h | h
      · have := Cal.dby_mono (Y + 1) (n / 366 + 1) (by omega); omega
      · exact h
    go_wp2_with fail
    simp only [hnd, hrd]
    go_loop [6] (fun y => ∃ Y' : Int, 1 ≤ Y' ∧ Y' ≤ Y ∧ y = .int .i64 Y') (fun y => (10000 - intOf y).toNat)
    case atStart => exact ⟨n / 366 + 1, by omega, hgY, rfl⟩
    case round =>
      obtain ⟨Y', z1, z2, rfl⟩ := hrel
      by_cases hz : Y' < Y
      · have hle : Cal.dby (Y' + 1) ≤ n := by have := Cal.dby_mono (Y' + 1) Y (by omega); omega
        go_wp2_with (go_at_call 171; refine (ydays_any _ _ (by omega) (by omega)).mono ?_; rintro e w' ⟨rfl, rfl⟩)
        all_goals (try (exfalso; omega))
        go_round
        case rel => exact ⟨Y' + 1, by omega, by omega, by go_num⟩
        case measure => simp [intOf]; omega
      · obtain rfl : Y' = Y := by omega
        have hdb := Cal.dby_bd Y' z1 (by omega)
        obtain ⟨d1, d2, d3, d4, d5⟩ := hdate
        have hcb := Cal.cum_bd Y' M
        go_wp2_with (go_at_call 171; refine (ydays_any _ _ (by omega) (by omega)).mono ?_; rintro e w' ⟨rfl, rfl⟩)
        all_goals (try (exfalso; omega))
        go_loopw [8] (fun day wr => ∃ mo : Int, 1 ≤ mo ∧ mo ≤ M ∧ day = .int .i64 (n - Cal.dby Y' - Cal.cum Y' mo) ∧
          wr = (w.alloc (.cells #[.int .i64 0, .int .i64 0, .int .i64 0, .int .i64 0, .int .i64 0, .int .i64 0, .int .i64 0] 171)).alloc (.cells #[.int .i64 Y', .int .i64 mo, .int .i64 0, .int .i64 (r / 3600), .int .i64 (r / 60 % 60), .int .i64 (r % 60), .int .i64 (n % 7)] 171))
          (fun day _ => (intOf day).toNat)
        case atStart => exact ⟨1, by omega, d1, by rw [Cal.cum_one]; go_num, rfl⟩
        case round =>
          obtain ⟨mo, o1, o2, rfl, rfl⟩ := hrel
          have hcm := Cal.cum_bd Y' mo
          have hmb := Cal.mdays_lo Y' mo
          have hmp := Cal.mdays_pos Y' mo o1 (by omega)
          by_cases hlt : mo < M
          · have hcl := Cal.cum_lt Y' mo M o1 hlt d2
            have hs := Cal.cum_succ Y' mo o1 (by omega)
            go_wp2_with (go_at_call 172; refine (mdays_any _ _ _).mono ?_; rintro e w' ⟨rfl, rfl⟩)
            all_goals (try (exfalso; omega))
            go_roundw
            case rel => exact ⟨mo + 1, by omega, by omega, by rw [hs]; go_num, rfl⟩
            case measure => simp [intOf]; omega
          · obtain rfl : mo = M := by omega
            go_wp2_with (go_at_call 172; refine (mdays_any _ _ _).mono ?_; rintro e w' ⟨rfl, rfl⟩)
            all_goals (try (exfalso; omega))
            have hde : n - Cal.dby Y' - Cal.cum Y' mo + 1 = d := by omega
            rw [hde]
            have hb1 := (Below.refl w.heap.size w).alloc (Nat.le_refl _) (.cells #[.int .i64 Y', .int .i64 mo, .int .i64 d, .int .i64 (r / 3600), .int .i64 (r / 60 % 60), .int .i64 (r % 60), .int .i64 (n % 7)] 171)
            have hb2 := hb1.alloc hb1.size (.cells #[.int .i64 Y', .int .i64 mo, .int .i64 d, .int .i64 (r / 3600), .int .i64 (r / 60 % 60), .int .i64 (r % 60), .int .i64 (n % 7)] 171)
            refine bodyPost_ret (v := .tuple #[dateV Y' mo d (r / 3600) (r / 60 % 60) (r % 60) (n % 7), .int .i64 0]) (by simp [results, Tryz.results138, go_sem, dateV]) rfl ⟨by rw [hres.out.1, hres.out.2], hb2⟩
  · have hok : isMom m = false := by unfold isMom; exact decide_eq_false hm
    have hdec : decide (-62135596800 ≤ m ∧ m ≤ 253402300799) = false := decide_eq_false hm
    have hres : Hid (D = dateV 0 0 0 0 0 0 0 ∧ E = 40) := by
      rw [← hD.out, ← hE.out]; unfold Hid splitD splitE; rw [hok]; exact ⟨rfl, rfl⟩
    clear hD hE
    go_enter Tryz.func138, Tryz.ntmps138
    go_wp2_with fail
    refine (ismoment_any _ _).mono ?_; rintro e w1 ⟨rfl, rfl⟩
    rw [hdec]
    go_wp2_with fail
    refine bodyPost_ret (v := .tuple #[dateV 0 0 0 0 0 0 0, .int .i64 40]) (by simp [results, Tryz.results138, go_sem, dateV]) rfl ⟨by rw [hres.out.1, hres.out.2], (Below.refl _ _).alloc (Nat.le_refl _) _⟩
end Go.Proofs.YtkenianfpfamcaaGreatDoor
namespace Go.Proofs.YtkenianfpfamcaaGreatDoor
open Go Go.RowKit

structure CellsAt (w : World) (b : Nat) (cs : List Value) : Prop where
  cell : ∀ j (hj : j < cs.length), w.cell? ⟨b, j, none⟩ = some cs[j]
  free : ∀ j, w.frozen? ⟨b, j, none⟩ = false
  lt : b < w.heap.size
theorem CellsAt.first (w : World) (cs : List Value) (t : TypeId) : CellsAt (w.alloc (.cells cs.toArray t)) w.heap.size cs where
  cell j hj := by
    have := World.cell?_alloc_mark w cs.toArray t (0, 0) j
    rw [this]
    simp [hj]
  free j := by
    rw [World.frozen?_alloc_mark w cs.toArray t 0 0 j]
    simp
  lt := by show w.heap.size < (w.heap.push _).size; rw [Array.size_push]; omega
theorem CellsAt.next {w w' : World} {b : Nat} {cs : List Value} (h : CellsAt w b cs) (hb : Below w.heap.size w w') : CellsAt w' b cs where
  cell j hj := by rw [hb.cell (p := ⟨b, j, none⟩) h.lt]; exact h.cell j hj
  free j := by rw [hb.frozen (p := ⟨b, j, none⟩) h.lt]; exact h.free j
  lt := Nat.lt_of_lt_of_le h.lt hb.size
theorem CellsAt.set {w : World} {b : Nat} {cs : List Value} (h : CellsAt w b cs) (k : Nat) (hk : k < cs.length) (v : Value) : CellsAt (w.setCell ⟨b, k, none⟩ v) b (cs.set k v) where
  cell j hj := by
    rw [List.length_set] at hj
    by_cases e : k = j
    · subst e
      rw [World.cell?_setCell_same _ _ _ (h.cell k hk)]
      simp
    · rw [World.cell?_setCell_other _ _ _ _ (by intro h; injection h; omega), h.cell j hj]
      simp [e]
  free j := by rw [World.frozen?_setCell]; exact h.free j
  lt := by rw [World.size_setCell]; exact h.lt
theorem CellsAt.other {w : World} {b c : Nat} {cs : List Value} (h : CellsAt w b cs) (hbc : c ≠ b) (k : Nat) (v : Value) : CellsAt (w.setCell ⟨c, k, none⟩ v) b cs where
  cell j hj := by rw [World.cell?_setCell_other _ _ _ _ (by intro h; injection h; omega)]; exact h.cell j hj
  free j := by rw [World.frozen?_setCell]; exact h.free j
  lt := by rw [World.size_setCell]; exact h.lt
end Go.Proofs.YtkenianfpfamcaaGreatDoor
namespace Go.Proofs.YtkenianfpfamcaaGreatDoor
open Go Go.RowKit
set_option maxHeartbeats 2000000

theorem date_ret {w W : World} {D : Value} {E : Int} {y mo d h mi s wd : Int} {a : Act} (hres : Hid (D = dateV y mo d h mi s wd ∧ E = 0))
    (F : CellsAt W w.heap.size [.int .i64 y, .int .i64 mo, .int .i64 d, .int .i64 h, .int .i64 mi, .int .i64 s, .int .i64 wd]) (B : Below w.heap.size w W)
    (h2 : a.tmps[2]? = some (.pointer (some ⟨w.heap.size, 0, none⟩))) (h3 : a.tmps[3]? = some (.int .i64 0)) (hd : a.defers = []) :
    bodyPost Tryz.prog Tryz.f112 (fun e w' => e = Ending.returned (.tuple #[D, .int .i64 E]) ∧ Below w.heap.size w w') Exit.ret a W := by
  have e0 := F.cell 0 (by simp)
  have e1 := F.cell 1 (by simp)
  have e2 := F.cell 2 (by simp)
  have e3 := F.cell 3 (by simp)
  have e4 := F.cell 4 (by simp)
  have e5 := F.cell 5 (by simp)
  have e6 := F.cell 6 (by simp)
  simp only [List.getElem_cons_zero, List.getElem_cons_succ] at e0 e1 e2 e3 e4 e5 e6
  refine bodyPost_ret (v := .tuple #[dateV y mo d h mi s wd, .int .i64 0]) ?_ hd ⟨by rw [hres.out.1, hres.out.2], B⟩
  simp [results, Tryz.results112, go_sem, dateV, h2, h3, e0, e1, e2, e3, e4, e5, e6]

set_option maxRecDepth 100000 in
theorem rsplit_any (m : Int) (w : World) :
    Calls Tryz.prog 112 #[.int .i64 m] w fun e w' => e = .returned (.tuple #[splitD m, .int .i64 (splitE m)]) ∧ Below w.heap.size w w' := by
  obtain ⟨D, hD⟩ := name_it (splitD m)
  obtain ⟨E, hE⟩ := name_it (splitE m)
  rw [hD.out, hE.out]
  by_cases hm : -62135596800 ≤ m ∧ m ≤ 253402300799
  · have hok : isMom m = true := by unfold isMom; exact decide_eq_true hm
    obtain ⟨m1, m2⟩ := hm
    obtain ⟨n, hn⟩ := name_it (splitN m)
    obtain ⟨r, hr⟩ := name_it (splitR m)
    have hres : Hid (D = dateV (Cal.yOf n) (Cal.mOf n) (Cal.dOf n) (r / 3600) (r / 60 % 60) (r % 60) (n % 7) ∧ E = 0) := by
      rw [← hD.out, ← hE.out]; unfold Hid splitD splitE; rw [if_pos hok, if_pos hok, hn.out, hr.out]; exact ⟨rfl, rfl⟩
    clear hD hE
    have n0 : 0 ≤ n := by rw [← hn.out]; unfold splitN; omega
    have n1 : n < 3652059 := by rw [← hn.out]; unfold splitN; omega
    have r0 : 0 ≤ r := by rw [← hr.out]; unfold splitR; omega
    have r1 : r < 86400 := by rw [← hr.out]; unfold splitR; omega
    have hnr : 86400 * (n - 719162) + r = m := by rw [← hr.out, ← hn.out]; unfold splitR splitN; omega
    have hyo := Cal.yOf_ok n0 n1
    have hdate := Cal.isDate_of n0 n1
    obtain ⟨Y, hY⟩ := name_it (Cal.yOf n)
    obtain ⟨M, hM⟩ := name_it (Cal.mOf n)
    obtain ⟨d, hd⟩ := name_it (Cal.dOf n)
    rw [hY.out] at hyo hdate
    rw [hM.out, hd.out] at hdate
    rw [hY.out, hM.out, hd.out] at hres
    obtain ⟨y1, y2, y3, y4⟩ := hyo
    obtain ⟨q, hq⟩ := name_it (m.tdiv 86400)
    obtain ⟨t, ht⟩ := name_it (m.tmod 86400)
    have hq' : m.tdiv 86400 = q := hq.out
    have ht' : m.tmod 86400 = t := ht.out
    have hmd := Int.tmod_add_mul_tdiv m 86400
    rw [hq', ht'] at hmd
    have hb1 := Int.tmod_lt_of_pos m (b := 86400) (by omega)
    have hb2 : -86400 < t := by
      have := Int.tmod_lt_of_pos (-m) (b := 86400) (by omega)
      rw [Int.neg_tmod, ht'] at this; omega
    rw [ht'] at hb1
    by_cases htn : t < 0
    · have hA : q - 1 = n - 719162 := by omega
      have hB : t + 86400 = r := by omega
      have hwd : wday (n - 719162) = n % 7 := by unfold wday; omega
      have h70 := Cal.dby70
      go_enter Tryz.func112, Tryz.ntmps112
      go_wp2_with (go_at_call 154; refine (rweekday_any _ _ (by omega) (by omega)).mono ?_; rintro e w' ⟨rfl, rfl⟩)
      all_goals (try (exfalso; omega))
      go_loopw [4] (fun days wr => ∃ Y1 : Int, 1 ≤ Y1 ∧ Y1 ≤ 1970 ∧ (Y ≤ Y1 ∨ Y1 = 1970) ∧ days = .int .i64 (n - Cal.dby Y1) ∧
        wr = (w.alloc (.cells #[.int .i64 0, .int .i64 0, .int .i64 0, .int .i64 0, .int .i64 0, .int .i64 0, .int .i64 0] 157)).alloc (.cells #[.int .i64 Y1, .int .i64 1, .int .i64 0, .int .i64 (r / 3600), .int .i64 (r / 60 % 60), .int .i64 (r % 60), .int .i64 (n % 7)] 157)) (fun days _ => (0 - intOf days).toNat)
      case atStart => exact ⟨1970, by omega, by omega, Or.inr rfl, by rw [h70], rfl⟩
      case round =>
        obtain ⟨Y1, a1, a2, a3, rfl, rfl⟩ := hrel
        have hdb := Cal.dby_bd Y1 a1 (by omega)
        by_cases hlt : n < Cal.dby Y1
        · have hY1 : Y < Y1 := by
            rcases Int.lt_or_le Y Y1 with h | h
            · exact h
            · have := Cal.dby_mono Y1 Y h; omega
          have hs := Cal.dby_succ (Y1 - 1)
          rw [Int.sub_add_cancel] at hs
          have hyb := Cal.ydays_bd (Y1 - 1)
          have hdc := Cal.dby_bd (Y1 - 1) (by omega) (by omega)
          go_wp2_with (go_at_call 155; refine (rydays_any _ _).mono ?_; rintro e w' ⟨rfl, rfl⟩)
          all_goals (try (exfalso; omega))
          go_roundw
          case rel => exact ⟨Y1 - 1, by omega, by omega, by omega, by go_num, rfl⟩
          case measure => simp [intOf]; omega
        · have hY1 : Y1 ≤ Y := by
            rcases Int.lt_or_le Y Y1 with h | h
            · have := Cal.dby_mono (Y + 1) Y1 (by omega); omega
            · exact h
          have hyy := Cal.ydays_bd Y1
          go_wp2_with fail
          all_goals (try (exfalso; omega))
          go_loopw [4] (fun days wr => ∃ Y2 : Int, 1 ≤ Y2 ∧ Y2 ≤ Y ∧ days = .int .i64 (n - Cal.dby Y2) ∧
            wr = (w.alloc (.cells #[.int .i64 0, .int .i64 0, .int .i64 0, .int .i64 0, .int .i64 0, .int .i64 0, .int .i64 0] 157)).alloc (.cells #[.int .i64 Y2, .int .i64 1, .int .i64 0, .int .i64 (r / 3600), .int .i64 (r / 60 % 60), .int .i64 (r % 60), .int .i64 (n % 7)] 157)) (fun days _ => (intOf days).toNat)
          case atStart => exact ⟨Y1, a1, hY1, rfl, rfl⟩
          case round =>
            obtain ⟨Y2, c1, c2, rfl, rfl⟩ := hrel
            have hdc := Cal.dby_bd Y2 c1 (by omega)
            have hs := Cal.dby_succ Y2
            have hyb := Cal.ydays_bd Y2
            by_cases hz : Y2 < Y
            · have hle : Cal.dby (Y2 + 1) ≤ n := by have := Cal.dby_mono (Y2 + 1) Y (by omega); omega
              go_wp2_with (go_at_call 155; refine (rydays_any _ _).mono ?_; rintro e w' ⟨rfl, rfl⟩)
              all_goals (try (exfalso; omega))
              go_roundw
              case rel => exact ⟨Y2 + 1, by omega, by omega, by rw [hs]; go_num, rfl⟩
              case measure => simp [intOf]; omega
            · obtain rfl : Y2 = Y := by omega
              obtain ⟨d1, d2, d3, d4, d5⟩ := hdate
              have hcb := Cal.cum_bd Y2 M
              go_wp2_with (go_at_call 155; refine (rydays_any _ _).mono ?_; rintro e w' ⟨rfl, rfl⟩)
              all_goals (try (exfalso; omega))
              have hF1 := CellsAt.first w [.int .i64 0, .int .i64 0, .int .i64 0, .int .i64 0, .int .i64 0, .int .i64 0, .int .i64 0] 157
              have hF2 := CellsAt.first (w.alloc (.cells #[.int .i64 0, .int .i64 0, .int .i64 0, .int .i64 0, .int .i64 0, .int .i64 0, .int .i64 0] 157)) [.int .i64 Y2, .int .i64 1, .int .i64 0, .int .i64 (r / 3600), .int .i64 (r / 60 % 60), .int .i64 (r % 60), .int .i64 (n % 7)] 157
              have hF3 := hF1.next ((Below.refl _ _).alloc (Nat.le_refl _) (.cells #[.int .i64 Y2, .int .i64 1, .int .i64 0, .int .i64 (r / 3600), .int .i64 (r / 60 % 60), .int .i64 (r % 60), .int .i64 (n % 7)] 157))
              have hzz : (w.alloc (.cells #[.int .i64 0, .int .i64 0, .int .i64 0, .int .i64 0, .int .i64 0, .int .i64 0, .int .i64 0] 157)).heap.size = w.heap.size + 1 := Array.size_push ..
              rw [hzz] at hF2
              have hFb := (Below.refl w.heap.size w).alloc (Nat.le_refl _) (.cells #[.int .i64 0, .int .i64 0, .int .i64 0, .int .i64 0, .int .i64 0, .int .i64 0, .int .i64 0] 157)
              have hFc := hFb.alloc hFb.size (.cells #[.int .i64 Y2, .int .i64 1, .int .i64 0, .int .i64 (r / 3600), .int .i64 (r / 60 % 60), .int .i64 (r % 60), .int .i64 (n % 7)] 157)
              have G1 := Lib.hid hF3
              have G2 := Lib.hid hF2
              clear hF1 hF2 hF3 hzz hFb
              go_loopw [4] (fun day wr => ∃ mo : Int, 1 ≤ mo ∧ mo ≤ M ∧ day = .int .i64 (n - Cal.dby Y2 - Cal.cum Y2 mo) ∧
                Hid (CellsAt wr w.heap.size [.int .i64 0, .int .i64 0, .int .i64 0, .int .i64 0, .int .i64 0, .int .i64 0, .int .i64 0]) ∧
                Hid (CellsAt wr (w.heap.size + 1) [.int .i64 Y2, .int .i64 mo, .int .i64 0, .int .i64 (r / 3600), .int .i64 (r / 60 % 60), .int .i64 (r % 60), .int .i64 (n % 7)]) ∧
                Below w.heap.size w wr) (fun day _ => (intOf day).toNat)
              case atStart => exact ⟨1, by omega, d1, by rw [Cal.cum_one]; go_num, G1, G2, hFc⟩
              case round =>
                obtain ⟨mo, o1, o2, rfl, A1, A2, hbr⟩ := hrel
                have hcm := Cal.cum_bd Y2 mo
                have hmb := Cal.mdays_lo Y2 mo
                have hmp := Cal.mdays_pos Y2 mo o1 (by omega)
                have e0 := A2.out.cell 0 (by simp)
                have e1 := A2.out.cell 1 (by simp)
                simp only [List.getElem_cons_zero, List.getElem_cons_succ] at e0 e1
                by_cases hlt : mo < M
                · have hcl := Cal.cum_lt Y2 mo M o1 hlt d2
                  have hs := Cal.cum_succ Y2 mo o1 (by omega)
                  go_wp2_with fail
                  refine (rmdays_any _ _ _).mono ?_; rintro e w5 ⟨rfl, hb5⟩
                  have A1' := Lib.hid (A1.out.next hb5)
                  have A2' := Lib.hid (A2.out.next hb5)
                  have hbr5 := hbr.trans (hb5.mono hbr.size)
                  have e0 := A2'.out.cell 0 (by simp)
                  have e1 := A2'.out.cell 1 (by simp)
                  simp only [List.getElem_cons_zero, List.getElem_cons_succ] at e0 e1
                  go_wp2_with fail
                  all_goals (try (exfalso; omega))
                  refine (rmdays_any _ _ _).mono ?_; rintro e w6 ⟨rfl, hb6⟩
                  have A1'' := Lib.hid (A1'.out.next hb6)
                  have A2'' := Lib.hid (A2'.out.next hb6)
                  have hbr6 := hbr5.trans (hb6.mono hbr5.size)
                  have e0 := A2''.out.cell 0 (by simp)
                  have e1 := A2''.out.cell 1 (by simp)
                  have f1 := A2''.out.free 1
                  simp only [List.getElem_cons_zero, List.getElem_cons_succ] at e0 e1
                  go_wp2_with fail
                  all_goals (try (exfalso; omega))
                  go_roundw
                  case rel => exact ⟨mo + 1, by omega, by omega, by rw [hs]; go_num, A1''.out.other (by omega) 1 _, A2''.out.set 1 (by simp) (.int .i64 (mo + 1)), hbr6.setCell (by show w.heap.size ≤ w.heap.size + 1; omega) _⟩
                  case measure => simp [intOf]; omega
                · obtain rfl : mo = M := by omega
                  go_wp2_with fail
                  refine (rmdays_any _ _ _).mono ?_; rintro e w5 ⟨rfl, hb5⟩
                  have A1' := Lib.hid (A1.out.next hb5)
                  have A2' := Lib.hid (A2.out.next hb5)
                  have hbr5 := hbr.trans (hb5.mono hbr.size)
                  have hde : n - Cal.dby Y2 - Cal.cum Y2 mo + 1 = d := by omega
                  have e0 := A2'.out.cell 0 (by simp)
                  have e1 := A2'.out.cell 1 (by simp)
                  have e2 := A2'.out.cell 2 (by simp)
                  have e3 := A2'.out.cell 3 (by simp)
                  have e4 := A2'.out.cell 4 (by simp)
                  have e5 := A2'.out.cell 5 (by simp)
                  have e6 := A2'.out.cell 6 (by simp)
                  have f2 := A2'.out.free 2
                  have k0 := A1'.out.cell 0 (by simp)
                  have k1 := A1'.out.cell 1 (by simp)
                  have k2 := A1'.out.cell 2 (by simp)
                  have k3 := A1'.out.cell 3 (by simp)
                  have k4 := A1'.out.cell 4 (by simp)
                  have k5 := A1'.out.cell 5 (by simp)
                  have k6 := A1'.out.cell 6 (by simp)
                  have g0 := A1'.out.free 0
                  have g1 := A1'.out.free 1
                  have g2 := A1'.out.free 2
                  have g3 := A1'.out.free 3
                  have g4 := A1'.out.free 4
                  have g5 := A1'.out.free 5
                  have g6 := A1'.out.free 6
                  simp only [List.getElem_cons_zero, List.getElem_cons_succ] at e0 e1 e2 e3 e4 e5 e6 k0 k1 k2 k3 k4 k5 k6
                  go_wp2_with fail
                  all_goals (try (exfalso; omega))
                  have F : CellsAt _ w.heap.size [.int .i64 Y2, .int .i64 mo, .int .i64 d, .int .i64 (r / 3600), .int .i64 (r / 60 % 60), .int .i64 (r % 60), .int .i64 (n % 7)] :=
                    (((((((A1'.out.other (c := w.heap.size + 1) (by omega) 2 (.int .i64 d)).set 0 (by simp) (.int .i64 Y2)).set 1 (by simp) (.int .i64 mo)).set 2 (by simp) (.int .i64 d)).set 3 (by simp) (.int .i64 (r / 3600))).set 4 (by simp) (.int .i64 (r / 60 % 60))).set 5 (by simp) (.int .i64 (r % 60))).set 6 (by simp) (.int .i64 (n % 7))
                  have B := (((((((hbr5.setCell (p := ⟨w.heap.size + 1, 2, none⟩) (by show w.heap.size ≤ w.heap.size + 1; omega) (.int .i64 d)).setCell (p := ⟨w.heap.size, 0, none⟩) (Nat.le_refl _) (.int .i64 Y2)).setCell (p := ⟨w.heap.size, 1, none⟩) (Nat.le_refl _) (.int .i64 mo)).setCell (p := ⟨w.heap.size, 2, none⟩) (Nat.le_refl _) (.int .i64 d)).setCell (p := ⟨w.heap.size, 3, none⟩) (Nat.le_refl _) (.int .i64 (r / 3600))).setCell (p := ⟨w.heap.size, 4, none⟩) (Nat.le_refl _) (.int .i64 (r / 60 % 60))).setCell (p := ⟨w.heap.size, 5, none⟩) (Nat.le_refl _) (.int .i64 (r % 60))).setCell (p := ⟨w.heap.size, 6, none⟩) (Nat.le_refl _) (.int .i64 (n % 7))
                  refine (fun (key : ∀ W, CellsAt W w.heap.size [.int .i64 Y2, .int .i64 mo, .int .i64 d, .int .i64 (r / 3600), .int .i64 (r / 60 % 60), .int .i64 (r % 60), .int .i64 (n % 7)] → Below w.heap.size w W → bodyPost _ _ _ _ _ W) => key _ F B) ?_
                  intro W F B
                  exact date_ret hres F B rfl rfl rfl
    · have hA : q = n - 719162 := by omega
      have hB : t = r := by omega
      have hwd : wday (n - 719162) = n % 7 := by unfold wday; omega
      have h70 := Cal.dby70
      go_enter Tryz.func112, Tryz.ntmps112
      go_wp2_with (go_at_call 154; refine (rweekday_any _ _ (by omega) (by omega)).mono ?_; rintro e w' ⟨rfl, rfl⟩)
      all_goals (try (exfalso; omega))
      go_loopw [4] (fun days wr => ∃ Y1 : Int, 1 ≤ Y1 ∧ Y1 ≤ 1970 ∧ (Y ≤ Y1 ∨ Y1 = 1970) ∧ days = .int .i64 (n - Cal.dby Y1) ∧
        wr = (w.alloc (.cells #[.int .i64 0, .int .i64 0, .int .i64 0, .int .i64 0, .int .i64 0, .int .i64 0, .int .i64 0] 157)).alloc (.cells #[.int .i64 Y1, .int .i64 1, .int .i64 0, .int .i64 (r / 3600), .int .i64 (r / 60 % 60), .int .i64 (r % 60), .int .i64 (n % 7)] 157)) (fun days _ => (0 - intOf days).toNat)
      case atStart => exact ⟨1970, by omega, by omega, Or.inr rfl, by rw [h70], rfl⟩
      case round =>
        obtain ⟨Y1, a1, a2, a3, rfl, rfl⟩ := hrel
        have hdb := Cal.dby_bd Y1 a1 (by omega)
        by_cases hlt : n < Cal.dby Y1
        · have hY1 : Y < Y1 := by
            rcases Int.lt_or_le Y Y1 with h | h
            · exact h
            · have := Cal.dby_mono Y1 Y h; omega
          have hs := Cal.dby_succ (Y1 - 1)
          rw [Int.sub_add_cancel] at hs
          have hyb := Cal.ydays_bd (Y1 - 1)
          have hdc := Cal.dby_bd (Y1 - 1) (by omega) (by omega)
          go_wp2_with (go_at_call 155; refine (rydays_any _ _).mono ?_; rintro e w' ⟨rfl, rfl⟩)
          all_goals (try (exfalso; omega))
          go_roundw
          case rel => exact ⟨Y1 - 1, by omega, by omega, by omega, by go_num, rfl⟩
          case measure => simp [intOf]; omega
        · have hY1 : Y1 ≤ Y := by
            rcases Int.lt_or_le Y Y1 with h | h
            · have := Cal.dby_mono (Y + 1) Y1 (by omega); omega
            · exact h
          have hyy := Cal.ydays_bd Y1
          go_wp2_with fail
          all_goals (try (exfalso; omega))
          go_loopw [4] (fun days wr => ∃ Y2 : Int, 1 ≤ Y2 ∧ Y2 ≤ Y ∧ days = .int .i64 (n - Cal.dby Y2) ∧
            wr = (w.alloc (.cells #[.int .i64 0, .int .i64 0, .int .i64 0, .int .i64 0, .int .i64 0, .int .i64 0, .int .i64 0] 157)).alloc (.cells #[.int .i64 Y2, .int .i64 1, .int .i64 0, .int .i64 (r / 3600), .int .i64 (r / 60 % 60), .int .i64 (r % 60), .int .i64 (n % 7)] 157)) (fun days _ => (intOf days).toNat)
          case atStart => exact ⟨Y1, a1, hY1, rfl, rfl⟩
          case round =>
            obtain ⟨Y2, c1, c2, rfl, rfl⟩ := hrel
            have hdc := Cal.dby_bd Y2 c1 (by omega)
            have hs := Cal.dby_succ Y2
            have hyb := Cal.ydays_bd Y2
            by_cases hz : Y2 < Y
            · have hle : Cal.dby (Y2 + 1) ≤ n := by have := Cal.dby_mono (Y2 + 1) Y (by omega); omega
              go_wp2_with (go_at_call 155; refine (rydays_any _ _).mono ?_; rintro e w' ⟨rfl, rfl⟩)
              all_goals (try (exfalso; omega))
              go_roundw
              case rel => exact ⟨Y2 + 1, by omega, by omega, by rw [hs]; go_num, rfl⟩
              case measure => simp [intOf]; omega
            · obtain rfl : Y2 = Y := by omega
              obtain ⟨d1, d2, d3, d4, d5⟩ := hdate
              have hcb := Cal.cum_bd Y2 M
              go_wp2_with (go_at_call 155; refine (rydays_any _ _).mono ?_; rintro e w' ⟨rfl, rfl⟩)
              all_goals (try (exfalso; omega))
              have hF1 := CellsAt.first w [.int .i64 0, .int .i64 0, .int .i64 0, .int .i64 0, .int .i64 0, .int .i64 0, .int .i64 0] 157
              have hF2 := CellsAt.first (w.alloc (.cells #[.int .i64 0, .int .i64 0, .int .i64 0, .int .i64 0, .int .i64 0, .int .i64 0, .int .i64 0] 157)) [.int .i64 Y2, .int .i64 1, .int .i64 0, .int .i64 (r / 3600), .int .i64 (r / 60 % 60), .int .i64 (r % 60), .int .i64 (n % 7)] 157
              have hF3 := hF1.next ((Below.refl _ _).alloc (Nat.le_refl _) (.cells #[.int .i64 Y2, .int .i64 1, .int .i64 0, .int .i64 (r / 3600), .int .i64 (r / 60 % 60), .int .i64 (r % 60), .int .i64 (n % 7)] 157))
              have hzz : (w.alloc (.cells #[.int .i64 0, .int .i64 0, .int .i64 0, .int .i64 0, .int .i64 0, .int .i64 0, .int .i64 0] 157)).heap.size = w.heap.size + 1 := Array.size_push ..
              rw [hzz] at hF2
              have hFb := (Below.refl w.heap.size w).alloc (Nat.le_refl _) (.cells #[.int .i64 0, .int .i64 0, .int .i64 0, .int .i64 0, .int .i64 0, .int .i64 0, .int .i64 0] 157)
              have hFc := hFb.alloc hFb.size (.cells #[.int .i64 Y2, .int .i64 1, .int .i64 0, .int .i64 (r / 3600), .int .i64 (r / 60 % 60), .int .i64 (r % 60), .int .i64 (n % 7)] 157)
              have G1 := Lib.hid hF3
              have G2 := Lib.hid hF2
              clear hF1 hF2 hF3 hzz hFb
              go_loopw [4] (fun day wr => ∃ mo : Int, 1 ≤ mo ∧ mo ≤ M ∧ day = .int .i64 (n - Cal.dby Y2 - Cal.cum Y2 mo) ∧
                Hid (CellsAt wr w.heap.size [.int .i64 0, .int .i64 0, .int .i64 0, .int .i64 0, .int .i64 0, .int .i64 0, .int .i64 0]) ∧
                Hid (CellsAt wr (w.heap.size + 1) [.int .i64 Y2, .int .i64 mo, .int .i64 0, .int .i64 (r / 3600), .int .i64 (r / 60 % 60), .int .i64 (r % 60), .int .i64 (n % 7)]) ∧
                Below w.heap.size w wr) (fun day _ => (intOf day).toNat)
              case atStart => exact ⟨1, by omega, d1, by rw [Cal.cum_one]; go_num, G1, G2, hFc⟩
              case round =>
                obtain ⟨mo, o1, o2, rfl, A1, A2, hbr⟩ := hrel
                have hcm := Cal.cum_bd Y2 mo
                have hmb := Cal.mdays_lo Y2 mo
                have hmp := Cal.mdays_pos Y2 mo o1 (by omega)
                have e0 := A2.out.cell 0 (by simp)
                have e1 := A2.out.cell 1 (by simp)
                simp only [List.getElem_cons_zero, List.getElem_cons_succ] at e0 e1
                by_cases hlt : mo < M
                · have hcl := Cal.cum_lt Y2 mo M o1 hlt d2
                  have hs := Cal.cum_succ Y2 mo o1 (by omega)
                  go_wp2_with fail
                  refine (rmdays_any _ _ _).mono ?_; rintro e w5 ⟨rfl, hb5⟩
                  have A1' := Lib.hid (A1.out.next hb5)
                  have A2' := Lib.hid (A2.out.next hb5)
                  have hbr5 := hbr.trans (hb5.mono hbr.size)
                  have e0 := A2'.out.cell 0 (by simp)
                  have e1 := A2'.out.cell 1 (by simp)
                  simp only [List.getElem_cons_zero, List.getElem_cons_succ] at e0 e1
                  go_wp2_with fail
                  all_goals (try (exfalso; omega))
                  refine (rmdays_any _ _ _).mono ?_; rintro e w6 ⟨rfl, hb6⟩
                  have A1'' := Lib.hid (A1'.out.next hb6)
                  have A2'' := Lib.hid (A2'.out.next hb6)
                  have hbr6 := hbr5.trans (hb6.mono hbr5.size)
                  have e0 := A2''.out.cell 0 (by simp)
                  have e1 := A2''.out.cell 1 (by simp)
                  have f1 := A2''.out.free 1
                  simp only [List.getElem_cons_zero, List.getElem_cons_succ] at e0 e1
                  go_wp2_with fail
                  all_goals (try (exfalso; omega))
                  go_roundw
                  case rel => exact ⟨mo + 1, by omega, by omega, by rw [hs]; go_num, A1''.out.other (by omega) 1 _, A2''.out.set 1 (by simp) (.int .i64 (mo + 1)), hbr6.setCell (by show w.heap.size ≤ w.heap.size + 1; omega) _⟩
                  case measure => simp [intOf]; omega
                · obtain rfl : mo = M := by omega
                  go_wp2_with fail
                  refine (rmdays_any _ _ _).mono ?_; rintro e w5 ⟨rfl, hb5⟩
                  have A1' := Lib.hid (A1.out.next hb5)
                  have A2' := Lib.hid (A2.out.next hb5)
                  have hbr5 := hbr.trans (hb5.mono hbr.size)
                  have hde : n - Cal.dby Y2 - Cal.cum Y2 mo + 1 = d := by omega
                  have e0 := A2'.out.cell 0 (by simp)
                  have e1 := A2'.out.cell 1 (by simp)
                  have e2 := A2'.out.cell 2 (by simp)
                  have e3 := A2'.out.cell 3 (by simp)
                  have e4 := A2'.out.cell 4 (by simp)
                  have e5 := A2'.out.cell 5 (by simp)
                  have e6 := A2'.out.cell 6 (by simp)
                  have f2 := A2'.out.free 2
                  have k0 := A1'.out.cell 0 (by simp)
                  have k1 := A1'.out.cell 1 (by simp)
                  have k2 := A1'.out.cell 2 (by simp)
                  have k3 := A1'.out.cell 3 (by simp)
                  have k4 := A1'.out.cell 4 (by simp)
                  have k5 := A1'.out.cell 5 (by simp)
                  have k6 := A1'.out.cell 6 (by simp)
                  have g0 := A1'.out.free 0
                  have g1 := A1'.out.free 1
                  have g2 := A1'.out.free 2
                  have g3 := A1'.out.free 3
                  have g4 := A1'.out.free 4
                  have g5 := A1'.out.free 5
                  have g6 := A1'.out.free 6
                  simp only [List.getElem_cons_zero, List.getElem_cons_succ] at e0 e1 e2 e3 e4 e5 e6 k0 k1 k2 k3 k4 k5 k6
                  go_wp2_with fail
                  all_goals (try (exfalso; omega))
                  have F : CellsAt _ w.heap.size [.int .i64 Y2, .int .i64 mo, .int .i64 d, .int .i64 (r / 3600), .int .i64 (r / 60 % 60), .int .i64 (r % 60), .int .i64 (n % 7)] :=
                    (((((((A1'.out.other (c := w.heap.size + 1) (by omega) 2 (.int .i64 d)).set 0 (by simp) (.int .i64 Y2)).set 1 (by simp) (.int .i64 mo)).set 2 (by simp) (.int .i64 d)).set 3 (by simp) (.int .i64 (r / 3600))).set 4 (by simp) (.int .i64 (r / 60 % 60))).set 5 (by simp) (.int .i64 (r % 60))).set 6 (by simp) (.int .i64 (n % 7))
                  have B := (((((((hbr5.setCell (p := ⟨w.heap.size + 1, 2, none⟩) (by show w.heap.size ≤ w.heap.size + 1; omega) (.int .i64 d)).setCell (p := ⟨w.heap.size, 0, none⟩) (Nat.le_refl _) (.int .i64 Y2)).setCell (p := ⟨w.heap.size, 1, none⟩) (Nat.le_refl _) (.int .i64 mo)).setCell (p := ⟨w.heap.size, 2, none⟩) (Nat.le_refl _) (.int .i64 d)).setCell (p := ⟨w.heap.size, 3, none⟩) (Nat.le_refl _) (.int .i64 (r / 3600))).setCell (p := ⟨w.heap.size, 4, none⟩) (Nat.le_refl _) (.int .i64 (r / 60 % 60))).setCell (p := ⟨w.heap.size, 5, none⟩) (Nat.le_refl _) (.int .i64 (r % 60))).setCell (p := ⟨w.heap.size, 6, none⟩) (Nat.le_refl _) (.int .i64 (n % 7))
                  refine (fun (key : ∀ W, CellsAt W w.heap.size [.int .i64 Y2, .int .i64 mo, .int .i64 d, .int .i64 (r / 3600), .int .i64 (r / 60 % 60), .int .i64 (r % 60), .int .i64 (n % 7)] → Below w.heap.size w W → bodyPost _ _ _ _ _ W) => key _ F B) ?_
                  intro W F B
                  exact date_ret hres F B rfl rfl rfl
  · have hok : isMom m = false := by unfold isMom; exact decide_eq_false hm
    have hres : Hid (D = dateV 0 0 0 0 0 0 0 ∧ E = 40) := by
      rw [← hD.out, ← hE.out]; unfold Hid splitD splitE; rw [hok]; exact ⟨rfl, rfl⟩
    clear hD hE
    rcases (by omega : m < -62135596800 ∨ (-62135596800 ≤ m ∧ 253402300799 < m)) with h | ⟨h, h'⟩
    all_goals
      go_enter Tryz.func112, Tryz.ntmps112
      go_wp2_with fail
      all_goals (try (exfalso; omega))
      refine bodyPost_ret (v := .tuple #[dateV 0 0 0 0 0 0 0, .int .i64 40]) (by simp [results, Tryz.results112, go_sem, dateV]) rfl ⟨by rw [hres.out.1, hres.out.2], (Below.refl _ _).alloc (Nat.le_refl _) _⟩
end Go.Proofs.YtkenianfpfamcaaGreatDoor
namespace Go.Proofs.YtkenianfpfamcaaGreatDoor
open Go Go.RowKit
set_option maxHeartbeats 1000000

/-- n in so many digits -/
def digW (n : Int) : Nat → List UInt8
  | 0 => []
  | w + 1 => digW (n / 10) w ++ [UInt8.ofNat (48 + (n % 10).toNat)]
theorem digW_len (n : Int) (w : Nat) : (digW n w).length = w := by
  induction w generalizing n with
  | zero => rfl
  | succ w ih => simp [digW, ih]
theorem digW_1 (n : Int) (h0 : 0 ≤ n) (h1 : n ≤ 9) : digW n 1 = [UInt8.ofNat (48 + n.toNat)] := by
  simp only [digW, List.nil_append]; rw [show n % 10 = n by omega]
theorem digW_2 (n : Int) (_h0 : 0 ≤ n) : digW n 2 = Stm.d2 (n % 100) := by
  simp only [digW, List.nil_append, Stm.d2, List.cons_append]
  rw [show n / 10 % 10 = n % 100 / 10 by omega, show n % 100 % 10 = n % 10 by omega]
theorem digW_4 (n : Int) (h0 : 0 ≤ n) (h1 : n ≤ 9999) : digW n 4 = Stm.d4 n := by
  simp only [digW, List.nil_append, Stm.d4, Stm.d2, List.cons_append]
  rw [show n / 10 / 10 / 10 % 10 = n / 100 / 10 by omega, show n / 10 / 10 % 10 = n / 100 % 10 by omega, show n / 10 % 10 = n % 100 / 10 by omega, show n % 100 % 10 = n % 10 by omega]
theorem chr_nat (n : Nat) (h : n ≤ 9) : ((UInt8.ofNat (48 + n)).toNat : Int) = 48 + (n : Int) := by
  have : n = 0 ∨ n = 1 ∨ n = 2 ∨ n = 3 ∨ n = 4 ∨ n = 5 ∨ n = 6 ∨ n = 7 ∨ n = 8 ∨ n = 9 := by omega
  rcases this with rfl | rfl | rfl | rfl | rfl | rfl | rfl | rfl | rfl | rfl <;> rfl

set_option maxRecDepth 100000 in
theorem rdigs_any (N : Int) (W : Nat) (w : World) (h0 : 0 ≤ N) (h1 : N ≤ 1000000) (hW : W ≤ 20) :
    Calls Tryz.prog 117 #[.int .i64 N, .int .i64 W] w fun e w' => e = .returned (.string (bs (digW N W))) ∧ Below w.heap.size w w' := by
  obtain ⟨R, hR⟩ := name_it (digW N W)
  rw [hR.out]
  have hWi : (W : Int) ≤ 20 := by omega
  go_enter Tryz.func117, Tryz.ntmps117
  go_wp2_with fail
  go_loopw [0, 5, 6] (fun n s i wr => ∃ (k : Nat) (m : Int) (o : List UInt8), k ≤ W ∧ i = .int .i64 k ∧ n = .int .i64 m ∧ s = .string (bs o) ∧ 0 ≤ m ∧ m ≤ N ∧ o.length = k ∧ Hid (digW m (W - k) ++ o = R) ∧ Below w.heap.size w wr) (fun _ _ i _ => W - (intOf i).toNat)
  case atStart => exact ⟨0, N, [], Nat.zero_le _, rfl, rfl, rfl, h0, by omega, rfl, by unfold Hid; rw [List.append_nil]; exact hR.out, Below.refl _ _⟩
  case round =>
    obtain ⟨k, m, o, hk, rfl, rfl, rfl, hm0, hm1, hol, hmo, hbr⟩ := hrel
    have hsz : (bs o).size ≤ 20 := by rw [size_bs]; omega
    by_cases hlt : k < W
    · obtain ⟨c, hc⟩ := name_it (UInt8.ofNat (48 + (m % 10).toNat))
      have hcn := chr_nat (m % 10).toNat (by omega)
      rw [hc.out] at hcn
      have hce : (c.toNat : Int) = 48 + m % 10 := by omega
      have hmo2 : Hid (digW (m / 10) (W - (k + 1)) ++ (c :: o) = R) := by
        have := hmo.out
        rw [show W - k = W - (k + 1) + 1 by omega] at this
        rw [← this]
        unfold Hid
        simp only [digW, hc.out, List.append_assoc, List.cons_append, List.nil_append]
      have hol2 : (c :: o).length = k + 1 := by simp [hol]
      have hcc : bs (c :: o) = bs [c] ++ bs o := rfl
      have hbw := hbr.alloc hbr.size (.cells #[.int .u8 (c.toNat : Int)] 5)
      have hconv : (convert 131 9 (.slice (some ⟨wr.heap.size, 0, none⟩) 1 1)).run Tryz.prog (wr.alloc (.cells #[.int .u8 (c.toNat : Int)] 5)) = .ok (.string (bs [c])) (wr.alloc (.cells #[.int .u8 (c.toNat : Int)] 5)) :=
        own_string 131 9 5 (base := wr.heap.size) (l := [c]) (World.ownsRow_lit wr #[.int .u8 (c.toNat : Int)] 1 (Nat.le_refl _) (by unfold maxLen; omega) rfl) Tryz.underlying131 Tryz.underlying5 Tryz.underlying9
      have hb1 : (bs [c]).size = 1 := rfl
      rw [hce] at hconv hbw
      have hm10 : 0 ≤ m % 10 := by omega
      have hm11 : m % 10 ≤ 9 := by omega
      clear hcn hc hol hmo hce
      go_wp2_with fail
      all_goals (try (exfalso; omega))
      go_roundw
      case rel => exact ⟨k + 1, m / 10, c :: o, by omega, by go_num, rfl, by rw [hcc], by omega, by omega, hol2, hmo2, hbw⟩
      case measure => simp [intOf]; omega
    · obtain rfl : k = W := by omega
      have hf : Hid (o = R) := by
        have := hmo.out
        rw [Nat.sub_self] at this
        exact this
      go_wp2_with fail
      all_goals (try (exfalso; omega))
      go_ret
      exact ⟨by rw [hf.out]; rfl, hbr⟩

theorem rdigs1 (N : Int) (w : World) (h0 : 0 ≤ N) (h1 : N ≤ 1000000) : Calls Tryz.prog 117 #[.int .i64 N, .int .i64 1] w fun e w' => e = .returned (.string (bs (digW N 1))) ∧ Below w.heap.size w w' := rdigs_any N 1 w h0 h1 (by decide)
theorem rdigs2 (N : Int) (w : World) (h0 : 0 ≤ N) (h1 : N ≤ 1000000) : Calls Tryz.prog 117 #[.int .i64 N, .int .i64 2] w fun e w' => e = .returned (.string (bs (digW N 2))) ∧ Below w.heap.size w w' := rdigs_any N 2 w h0 h1 (by decide)
theorem rdigs4 (N : Int) (w : World) (h0 : 0 ≤ N) (h1 : N ≤ 1000000) : Calls Tryz.prog 117 #[.int .i64 N, .int .i64 4] w fun e w' => e = .returned (.string (bs (digW N 4))) ∧ Below w.heap.size w w' := rdigs_any N 4 w h0 h1 (by decide)
set_option maxRecDepth 100000 in
theorem rlong_any (n : Nat) (w : World) (h : n < 7) :
    Calls Tryz.prog 115 #[.int .i64 n] w fun e w' => e = .returned (.string (bs (Stm.longN.getD n []))) ∧ Below w.heap.size w w' := by
  have : n = 0 ∨ n = 1 ∨ n = 2 ∨ n = 3 ∨ n = 4 ∨ n = 5 ∨ n = 6 := by omega
  rcases this with rfl | rfl | rfl | rfl | rfl | rfl | rfl
  all_goals
    go_enter Tryz.func115, Tryz.ntmps115
    go_wp2_with fail
    go_ret
    exact ⟨rfl, (Below.refl _ _).alloc (Nat.le_refl _) _⟩
set_option maxRecDepth 100000 in
theorem rshort_any (n : Nat) (w : World) (h : n < 7) :
    Calls Tryz.prog 114 #[.int .i64 n] w fun e w' => e = .returned (.string (bs (Stm.shortN.getD n []))) ∧ Below w.heap.size w w' := by
  have hx : Hid ((bs (Stm.longN.getD n [])).extract 0 3 = bs (Stm.shortN.getD n []) ∧ 3 ≤ (bs (Stm.longN.getD n [])).size) := by
    have : n = 0 ∨ n = 1 ∨ n = 2 ∨ n = 3 ∨ n = 4 ∨ n = 5 ∨ n = 6 := by omega
    rcases this with rfl | rfl | rfl | rfl | rfl | rfl | rfl <;> exact ⟨rfl, by decide⟩
  obtain ⟨X, hX⟩ := name_it (Stm.longN.getD n [])
  rw [hX.out] at hx
  have hsz := hx.out.2
  go_enter Tryz.func114, Tryz.ntmps114
  go_wp2_with fail
  refine (rlong_any n _ h).mono ?_; rintro e w1 ⟨rfl, hb⟩
  rw [hX.out]
  go_wp2_with fail
  all_goals (try (exfalso; omega))
  go_ret
  exact ⟨by rw [hx.out.1]; rfl, hb⟩
set_option maxRecDepth 100000 in
theorem rmonth_any (n : Nat) (w : World) (h : n < 12) :
    Calls Tryz.prog 116 #[.int .i64 n] w fun e w' => e = .returned (.string (bs (Stm.monN.getD n []))) ∧ w = w' := by
  have : n = 0 ∨ n = 1 ∨ n = 2 ∨ n = 3 ∨ n = 4 ∨ n = 5 ∨ n = 6 ∨ n = 7 ∨ n = 8 ∨ n = 9 ∨ n = 10 ∨ n = 11 := by omega
  rcases this with rfl | rfl | rfl | rfl | rfl | rfl | rfl | rfl | rfl | rfl | rfl | rfl
  all_goals
    go_enter Tryz.func116, Tryz.ntmps116
    go_wp2_with fail
    go_ret
    exact ⟨rfl, rfl⟩
theorem rlongI (x : Int) (w : World) (h0 : 0 ≤ x) (h1 : x ≤ 6) : Calls Tryz.prog 115 #[.int .i64 x] w fun e w' => e = .returned (.string (bs (Stm.longN.getD x.toNat []))) ∧ Below w.heap.size w w' := by
  obtain ⟨n, rfl⟩ := Int.eq_ofNat_of_zero_le h0
  exact rlong_any n w (by omega)
theorem rshortI (x : Int) (w : World) (h0 : 0 ≤ x) (h1 : x ≤ 6) : Calls Tryz.prog 114 #[.int .i64 x] w fun e w' => e = .returned (.string (bs (Stm.shortN.getD x.toNat []))) ∧ Below w.heap.size w w' := by
  obtain ⟨n, rfl⟩ := Int.eq_ofNat_of_zero_le h0
  exact rshort_any n w (by omega)
theorem rmonthI (x : Int) (w : World) (h0 : 0 ≤ x) (h1 : x ≤ 11) : Calls Tryz.prog 116 #[.int .i64 x] w fun e w' => e = .returned (.string (bs (Stm.monN.getD x.toNat []))) ∧ w = w' := by
  obtain ⟨n, rfl⟩ := Int.eq_ofNat_of_zero_le h0
  exact rmonth_any n w (by omega)
def patL (form : Int) : List UInt8 :=
  if form = 0 then [119, 44, 32, 100, 32, 109, 32, 121, 32, 104, 58, 105, 58, 115, 32, 71, 77, 84]
  else if form = 1 then [108, 44, 32, 100, 45, 109, 45, 99, 32, 104, 58, 105, 58, 115, 32, 71, 77, 84]
  else [119, 32, 109, 32, 101, 32, 104, 58, 105, 58, 115, 32, 121]
theorem rpattern_any (form : Int) (w : World) :
    Calls Tryz.prog 113 #[.int .i64 form] w fun e w' => e = .returned (.string (bs (patL form))) ∧ w = w' := by
  by_cases h0 : form = 0
  · subst h0
    go_enter Tryz.func113, Tryz.ntmps113
    go_wp2_with fail
    go_ret
    exact ⟨rfl, rfl⟩
  · by_cases h1 : form = 1
    · subst h1
      go_enter Tryz.func113, Tryz.ntmps113
      go_wp2_with fail
      go_ret
      exact ⟨rfl, rfl⟩
    · have hp : Hid (patL form = [119, 32, 109, 32, 101, 32, 104, 58, 105, 58, 115, 32, 121]) := by unfold Hid patL; rw [if_neg h0, if_neg h1]
      have e0 : (form == 0) = false := by simpa using h0
      have e1 : (form == 1) = false := by simpa using h1
      go_enter Tryz.func113, Tryz.ntmps113
      go_wp2_with fail
      go_ret
      exact ⟨by rw [hp.out]; rfl, rfl⟩
end Go.Proofs.YtkenianfpfamcaaGreatDoor
