/- What the variables of stamp and of strconv hold. Contracts: leap years, months' days, years' days, the number of a day (program and reference); every argument. Contracts: the number of a day (program and reference). Contract of stamp's Split: the date of a moment. A block whose cells are known: behind a call that leaves old memory alone, behind a store. Contract of the document's Split: the date of a moment. Contracts of the document's digits, names and pattern. -/
import Derived.Test.YtkenianfpfamcaaGreatDoorMc
import Derived.Test.YtkenianfpfamcaaGreatDoorMa
import Derived.Lib.LaidTab
import Derived.Lib.ItoaNum
namespace Go.Proofs.YtkenianfpfamcaaGreatDoor
open Go Go.RowKit
set_option maxHeartbeats 1000000

theorem gPow : Tryz.prog.globalNamed "internal/strconv.uint64pow10" = some 6 := by kernel_rfl
/-- what the variables of stamp and of strconv hold -/
structure EnvS (w : World) : Prop where
  n : 9 ≤ w.heap.size
  pow : Lib.TabIs Tryz.prog w "internal/strconv.uint64pow10" .u64 Lib.pow10Tab
  week : ∀ j, j < 7 → w.cell? ⟨0, j, none⟩ = some (.string (bs (Stm.longN.getD j [])))
  mon : ∀ j, j < 12 → w.cell? ⟨1, j, none⟩ = some (.string (bs (Stm.monN.getD j [])))
theorem EnvS.next {w w' : World} (h : EnvS w) (hb : Below w.heap.size w w') : EnvS w' where
  n := Nat.le_trans h.n hb.size
  pow := var?_below hb gPow (Nat.lt_of_lt_of_le (by decide) h.n) h.pow
  week j hj := by rw [hb.cell (p := ⟨0, j, none⟩) (Nat.lt_of_lt_of_le (by show 0 < 9; decide) h.n)]; exact h.week j hj
  mon j hj := by rw [hb.cell (p := ⟨1, j, none⟩) (Nat.lt_of_lt_of_le (by show 1 < 9; decide) h.n)]; exact h.mon j hj
theorem EnvS.alloc {w : World} (h : EnvS w) (o : Obj) : EnvS (w.alloc o) := h.next ((Below.refl _ _).alloc (Nat.le_refl _) _)
end Go.Proofs.YtkenianfpfamcaaGreatDoor
namespace Go.Proofs.YtkenianfpfamcaaGreatDoor
open Go Go.RowKit
set_option maxHeartbeats 1000000

theorem leap_any (y : Int) (w : World) :
    Calls Tryz.prog 214 #[.int .i64 y] w fun e w' => e = .returned (.bool (Cal.leapB y)) ∧ w = w' := by
  obtain ⟨R, hR⟩ := name_it (Cal.leapB y)
  rw [hR.out]
  go_enter Tryz.func214, Tryz.ntmps214
  go_wp2
  all_goals go_ret
  all_goals
    have a4 := Cal.tmod0 y 4
    have a100 := Cal.tmod0 y 100
    have a400 := Cal.tmod0 y 400
    exact ⟨ret_bool (by rw [← hR.out, Cal.leapB_iff, Bool.eq_iff_iff]; simp; omega), rfl⟩
theorem mdays_any (y m : Int) (w : World) :
    Calls Tryz.prog 172 #[.int .i64 y, .int .i64 m] w fun e w' => e = .returned (.int .i64 (Cal.mdays y m)) ∧ w = w' := by
  obtain ⟨R, hR⟩ := name_it (Cal.mdays y m)
  rw [hR.out]
  go_enter Tryz.func172, Tryz.ntmps172
  go_wp2_with (go_at_call 214; refine (leap_any _ _).mono ?_; rintro e w' ⟨rfl, rfl⟩)
  all_goals go_ret
  all_goals exact ⟨ret_int (by rw [← hR.out]; (try simp only [beq_iff_eq, beq_eq_false_iff_ne, ne_eq] at *); simp [Cal.mdays, *]), rfl⟩
theorem ydays_any (y : Int) (w : World) (h1 : 1 ≤ y) (h2 : y ≤ 10001) :
    Calls Tryz.prog 171 #[.int .i64 y] w fun e w' => e = .returned (.int .i64 (Cal.dby y)) ∧ w = w' := by
  obtain ⟨R, hR⟩ := name_it (Cal.dby y)
  rw [hR.out]
  go_enter Tryz.func171, Tryz.ntmps171
  go_wp2_with fail
  go_ret
  exact ⟨ret_int (by rw [← hR.out]; rfl), rfl⟩
theorem ismoment_any (m : Int) (w : World) :
    Calls Tryz.prog 143 #[.int .i64 m] w fun e w' => e = .returned (.bool (decide (-62135596800 ≤ m ∧ m ≤ 253402300799))) ∧ w = w' := by
  obtain ⟨R, hR⟩ := name_it (decide (-62135596800 ≤ m ∧ m ≤ 253402300799))
  rw [hR.out]
  go_enter Tryz.func143, Tryz.ntmps143
  go_wp2_with fail
  all_goals go_ret
  all_goals exact ⟨ret_bool (by rw [← hR.out, Bool.eq_iff_iff]; simp; omega), rfl⟩
def wday (n : Int) : Int := (n + 3) % 7
theorem wday_t (n : Int) : (n.tmod 7 + 7) % 7 = n % 7 ∧ -7 < n.tmod 7 ∧ n.tmod 7 < 7 := by
  have h := Int.tmod_def n 7
  have k : n.tdiv 7 = if 0 ≤ n then n / 7 else -((-n) / 7) := by
    split
    · exact Int.tdiv_eq_ediv_of_nonneg (by omega)
    · have := Int.neg_tdiv (a := -n) (b := 7)
      rw [Int.neg_neg] at this
      rw [this, Int.tdiv_eq_ediv_of_nonneg (by omega)]
  split at k <;> omega
theorem weekday_any (n : Int) (w : World) (h1 : -1000000 ≤ n) (h2 : n ≤ 10000000) :
    Calls Tryz.prog 192 #[.int .i64 n] w fun e w' => e = .returned (.int .i64 (wday n)) ∧ w = w' := by
  obtain ⟨R, hR⟩ := name_it (wday n)
  rw [hR.out]
  have ht := wday_t (n + 3)
  have hb1 := ht.2.1
  have hb2 := ht.2.2
  have HT := Lib.hid ht.1; clear ht
  go_enter Tryz.func192, Tryz.ntmps192
  go_wp2_with fail
  go_ret
  exact ⟨ret_int (by rw [← hR.out]; exact HT.out), rfl⟩
end Go.Proofs.YtkenianfpfamcaaGreatDoor
namespace Go.Proofs.YtkenianfpfamcaaGreatDoor
open Go Go.RowKit
set_option maxHeartbeats 1000000

theorem days_any (y m d : Int) (w : World) :
    Calls Tryz.prog 191 #[.int .i64 y, .int .i64 m, .int .i64 d] w fun e w' => e = .returned (.tuple #[.int .i64 (Cal.daysN y m d), .int .i64 (Cal.daysE y m d)]) ∧ w = w' := by
  obtain ⟨N, hN⟩ := name_it (Cal.daysN y m d)
  obtain ⟨E, hE⟩ := name_it (Cal.daysE y m d)
  rw [hN.out, hE.out]
  have hmd := Cal.mdays_lo y m
  have hout : ¬ (1 ≤ y ∧ y ≤ 9999 ∧ 1 ≤ d ∧ d ≤ Cal.mdays y m) → Hid (N = 0 ∧ E = 41) := by
    intro h
    have : Cal.daysOk y m d = false := by unfold Cal.daysOk; exact decide_eq_false h
    rw [← hN.out, ← hE.out]; unfold Cal.daysN Cal.daysE; rw [this]; exact ⟨rfl, rfl⟩
  by_cases h : 1 ≤ y ∧ y ≤ 9999 ∧ 1 ≤ d ∧ d ≤ Cal.mdays y m
  · have hmi := Cal.mdays_in y m (by omega)
    have hok : Hid (N = Cal.daysOf y m d ∧ E = 0) := by
      have : Cal.daysOk y m d = true := by unfold Cal.daysOk; exact decide_eq_true h
      rw [← hN.out, ← hE.out]; unfold Cal.daysN Cal.daysE; rw [this]; exact ⟨rfl, rfl⟩
    obtain ⟨h1, h2, h3, h4⟩ := h
    obtain ⟨h5, h6⟩ := hmi
    clear hout hN hE
    have hdb := Cal.dby_bd y (by omega) (by omega)
    go_enter Tryz.func191, Tryz.ntmps191
    go_wp2_with (first | (go_at_call 172; refine (mdays_any _ _ _).mono ?_; rintro e w' ⟨rfl, rfl⟩) | (go_at_call 171; refine (ydays_any _ _ (by omega) (by omega)).mono ?_; rintro e w' ⟨rfl, rfl⟩))
    go_loop [8, 9] (fun n k => ∃ j : Int, 1 ≤ j ∧ j ≤ m ∧ k = .int .i64 j ∧ n = .int .i64 (Cal.dby y - 719162 + d - 1 + Cal.cum y j)) (fun _ k => (12 - intOf k).toNat)
    case atStart => exact ⟨1, by omega, by omega, rfl, by rw [Cal.cum_one]; go_num⟩
    case round =>
      obtain ⟨j, j1, j2, rfl, rfl⟩ := hrel
      have hc := Cal.cum_bd y j
      have hm1 := Cal.mdays_lo y j
      by_cases hj : j < m
      · have hs := Lib.hid (Cal.cum_succ y j (by omega) (by omega))
        go_wp2_with (first | (go_at_call 172; refine (mdays_any _ _ _).mono ?_; rintro e w' ⟨rfl, rfl⟩))
        go_round
        case rel => exact ⟨j + 1, by omega, by omega, rfl, by rw [hs.out]; go_num⟩
        case measure => simp [intOf]; omega
      · obtain rfl : j = m := by omega
        go_wp2_with fail
        go_ret2
        exact ⟨by rw [hok.out.1, hok.out.2]; unfold Cal.daysOf; congr 3; simp; omega, rfl⟩
  · have ho := hout h
    clear hout hN hE
    have hcase : y < 1 ∨ (1 ≤ y ∧ 9999 < y) ∨ (1 ≤ y ∧ y ≤ 9999 ∧ d < 1) ∨ (1 ≤ y ∧ y ≤ 9999 ∧ 1 ≤ d ∧ Cal.mdays y m < d) := by omega
    clear h
    rcases hcase with h | ⟨h, h'⟩ | ⟨h, h', h''⟩ | ⟨h, h', h'', h3⟩
    all_goals
      go_enter Tryz.func191, Tryz.ntmps191
      go_wp2_with (first | (go_at_call 172; refine (mdays_any _ _ _).mono ?_; rintro e w' ⟨rfl, rfl⟩))
      all_goals go_ret2
      all_goals exact ⟨by rw [ho.out.1, ho.out.2]; rfl, rfl⟩

end Go.Proofs.YtkenianfpfamcaaGreatDoor
namespace Go.Proofs.YtkenianfpfamcaaGreatDoor
open Go Go.RowKit
set_option maxHeartbeats 2000000

def dateV (y mo d h mi s wd : Int) : Value := .agg #[.int .i64 y, .int .i64 mo, .int .i64 d, .int .i64 h, .int .i64 mi, .int .i64 s, .int .i64 wd]
def splitN (m : Int) : Int := (m + 62135596800) / 86400
def splitR (m : Int) : Int := (m + 62135596800) % 86400
def isMom (m : Int) : Bool := decide (-62135596800 ≤ m ∧ m ≤ 253402300799)
def splitD (m : Int) : Value :=
  if isMom m = true then dateV (Cal.yOf (splitN m)) (Cal.mOf (splitN m)) (Cal.dOf (splitN m)) (splitR m / 3600) (splitR m / 60 % 60) (splitR m % 60) (splitN m % 7) else dateV 0 0 0 0 0 0 0
def splitE (m : Int) : Int := if isMom m = true then 0 else 40

set_option maxRecDepth 100000 in
theorem split_any (m : Int) (w : World) :
    Calls Tryz.prog 138 #[.int .i64 m] w fun e w' => e = .returned (.tuple #[splitD m, .int .i64 (splitE m)]) ∧ Below w.heap.size w w' := by
  obtain ⟨D, hD⟩ := name_it (splitD m)
  obtain ⟨E, hE⟩ := name_it (splitE m)
  rw [hD.out, hE.out]
  by_cases hm : -62135596800 ≤ m ∧ m ≤ 253402300799
  · have hok : isMom m = true := by unfold isMom; exact decide_eq_true hm
    have hdec : decide (-62135596800 ≤ m ∧ m ≤ 253402300799) = true := decide_eq_true hm
    obtain ⟨m1, m2⟩ := hm
    obtain ⟨n, hn⟩ := name_it (splitN m)
    obtain ⟨r, hr⟩ := name_it (splitR m)
    have hres : Hid (D = dateV (Cal.yOf n) (Cal.mOf n) (Cal.dOf n) (r / 3600) (r / 60 % 60) (r % 60) (n % 7) ∧ E = 0) := by
      rw [← hD.out, ← hE.out]; unfold Hid splitD splitE; rw [if_pos hok, if_pos hok, hn.out, hr.out]; exact ⟨rfl, rfl⟩
    clear hD hE
    have n0 : 0 ≤ n := by rw [← hn.out]; unfold splitN; omega
    have n1 : n < 3652059 := by rw [← hn.out]; unfold splitN; omega
    have r0 : 0 ≤ r := by rw [← hr.out]; unfold splitR; omega
    have r1 : r < 86400 := by rw [← hr.out]; unfold splitR; omega
    have hnd : (m + 62135596800) / 86400 = n := hn.out
    have hrd : (m + 62135596800) % 86400 = r := hr.out
    have hyo := Cal.yOf_ok n0 n1
    have hdate := Cal.isDate_of n0 n1
    obtain ⟨Y, hY⟩ := name_it (Cal.yOf n)
    obtain ⟨M, hM⟩ := name_it (Cal.mOf n)
    obtain ⟨d, hd⟩ := name_it (Cal.dOf n)
    rw [hY.out] at hyo hdate
    rw [hM.out, hd.out] at hdate
    rw [hY.out, hM.out, hd.out] at hres
    obtain ⟨y1, y2, y3, y4⟩ := hyo
    go_enter Tryz.func138, Tryz.ntmps138
    go_wp2_with fail
    refine (ismoment_any _ _).mono ?_; rintro e w1 ⟨rfl, rfl⟩
    rw [hdec]
    have hg := Cal.dby_guess n n0
    have hgY : n / 366 + 1 ≤ Y := by
      rcases Int.lt_or_le Y (n / 366 + 1) with h | h
      · have := Cal.dby_mono (Y + 1) (n / 366 + 1) (by omega); omega
      · exact h
    go_wp2_with fail
    simp only [hnd, hrd]
    go_loop [6] (fun y => ∃ Y' : Int, 1 ≤ Y' ∧ Y' ≤ Y ∧ y = .int .i64 Y') (fun y => (10000 - intOf y).toNat)
    case atStart => exact ⟨n / 366 + 1, by omega, hgY, rfl⟩
    case round =>
      obtain ⟨Y', z1, z2, rfl⟩ := hrel
      by_cases hz : Y' < Y
      · have hle : Cal.dby (Y' + 1) ≤ n := by have := Cal.dby_mono (Y' + 1) Y (by omega); omega
        go_wp2_with (go_at_call 171; refine (ydays_any _ _ (by omega) (by omega)).mono ?_; rintro e w' ⟨rfl, rfl⟩)
        all_goals (try (exfalso; omega))
        go_round
        case rel => exact ⟨Y' + 1, by omega, by omega, by go_num⟩
        case measure => simp [intOf]; omega
      · obtain rfl : Y' = Y := by omega
        have hdb := Cal.dby_bd Y' z1 (by omega)
        obtain ⟨d1, d2, d3, d4, d5⟩ := hdate
        have hcb := Cal.cum_bd Y' M
        go_wp2_with (go_at_call 171; refine (ydays_any _ _ (by omega) (by omega)).mono ?_; rintro e w' ⟨rfl, rfl⟩)
        all_goals (try (exfalso; omega))
        go_loopw [8] (fun day wr => ∃ mo : Int, 1 ≤ mo ∧ mo ≤ M ∧ day = .int .i64 (n - Cal.dby Y' - Cal.cum Y' mo) ∧
          wr = (w.alloc (.cells #[.int .i64 0, .int .i64 0, .int .i64 0, .int .i64 0, .int .i64 0, .int .i64 0, .int .i64 0] 171)).alloc (.cells #[.int .i64 Y', .int .i64 mo, .int .i64 0, .int .i64 (r / 3600), .int .i64 (r / 60 % 60), .int .i64 (r % 60), .int .i64 (n % 7)] 171))
          (fun day _ => (intOf day).toNat)
        case atStart => exact ⟨1, by omega, d1, by rw [Cal.cum_one]; go_num, rfl⟩
        case round =>
          obtain ⟨mo, o1, o2, rfl, rfl⟩ := hrel
          have hcm := Cal.cum_bd Y' mo
          have hmb := Cal.mdays_lo Y' mo
          have hmp := Cal.mdays_pos Y' mo o1 (by omega)
          by_cases hlt : mo < M
          · have hcl := Cal.cum_lt Y' mo M o1 hlt d2
            have hs := Cal.cum_succ Y' mo o1 (by omega)
            go_wp2_with (go_at_call 172; refine (mdays_any _ _ _).mono ?_; rintro e w' ⟨rfl, rfl⟩)
            all_goals (try (exfalso; omega))
            go_roundw
            case rel => exact ⟨mo + 1, by omega, by omega, by rw [hs]; go_num, rfl⟩
            case measure => simp [intOf]; omega
          · obtain rfl : mo = M := by omega
            go_wp2_with (go_at_call 172; refine (mdays_any _ _ _).mono ?_; rintro e w' ⟨rfl, rfl⟩)
            all_goals (try (exfalso; omega))
            have hde : n - Cal.dby Y' - Cal.cum Y' mo + 1 = d := by omega
            rw [hde]
            have hb1 := (Below.refl w.heap.size w).alloc (Nat.le_refl _) (.cells #[.int .i64 Y', .int .i64 mo, .int .i64 d, .int .i64 (r / 3600), .int .i64 (r / 60 % 60), .int .i64 (r % 60), .int .i64 (n % 7)] 171)
            have hb2 := hb1.alloc hb1.size (.cells #[.int .i64 Y', .int .i64 mo, .int .i64 d, .int .i64 (r / 3600), .int .i64 (r / 60 % 60), .int .i64 (r % 60), .int .i64 (n % 7)] 171)
            refine bodyPost_ret (v := .tuple #[dateV Y' mo d (r / 3600) (r / 60 % 60) (r % 60) (n % 7), .int .i64 0]) (by simp [results, Tryz.results138, go_sem, dateV]) rfl ⟨by rw [hres.out.1, hres.out.2], hb2⟩
  · have hok : isMom m = false := by unfold isMom; exact decide_eq_false hm
    have hdec : decide (-62135596800 ≤ m ∧ m ≤ 253402300799) = false := decide_eq_false hm
    have hres : Hid (D = dateV 0 0 0 0 0 0 0 ∧ E = 40) := by
      rw [← hD.out, ← hE.out]; unfold Hid splitD splitE; rw [hok]; exact ⟨rfl, rfl⟩
    clear hD hE
    go_enter Tryz.func138, Tryz.ntmps138
    go_wp2_with fail
    refine (ismoment_any _ _).mono ?_; rintro e w1 ⟨rfl, rfl⟩
    rw [hdec]
    go_wp2_with fail
    refine bodyPost_ret (v := .tuple #[dateV 0 0 0 0 0 0 0, .int .i64 40]) (by simp [results, Tryz.results138, go_sem, dateV]) rfl ⟨by rw [hres.out.1, hres.out.2], (Below.refl _ _).alloc (Nat.le_refl _) _⟩
end Go.Proofs.YtkenianfpfamcaaGreatDoor
namespace Go.Proofs.YtkenianfpfamcaaGreatDoor
open Go Go.RowKit

structure CellsAt (w : World) (b : Nat) (cs : List Value) : Prop where
  cell : ∀ j (hj : j < cs.length), w.cell? ⟨b, j, none⟩ = some cs[j]
  free : ∀ j, w.frozen? ⟨b, j, none⟩ = false
  lt : b < w.heap.size
theorem CellsAt.first (w : World) (cs : List Value) (t : TypeId) : CellsAt (w.alloc (.cells cs.toArray t)) w.heap.size cs where
  cell j hj := by
    have := World.cell?_alloc_mark w cs.toArray t (0, 0) j
    rw [this]
    simp [hj]
  free j := by
    rw [World.frozen?_alloc_mark w cs.toArray t 0 0 j]
    simp
  lt := by show w.heap.size < (w.heap.push _).size; rw [Array.size_push]; omega
theorem CellsAt.next {w w' : World} {b : Nat} {cs : List Value} (h : CellsAt w b cs) (hb : Below w.heap.size w w') : CellsAt w' b cs where
  cell j hj := by rw [hb.cell (p := ⟨b, j, none⟩) h.lt]; exact h.cell j hj
  free j := by rw [hb.frozen (p := ⟨b, j, none⟩) h.lt]; exact h.free j
  lt := Nat.lt_of_lt_of_le h.lt hb.size
theorem CellsAt.set {w : World} {b : Nat} {cs : List Value} (h : CellsAt w b cs) (k : Nat) (hk : k < cs.length) (v : Value) : CellsAt (w.setCell ⟨b, k, none⟩ v) b (cs.set k v) where
  cell j hj := by
    rw [List.length_set] at hj
    by_cases e : k = j
    · subst e
      rw [World.cell?_setCell_same _ _ _ (h.cell k hk)]
      simp
    · rw [World.cell?_setCell_other _ _ _ _ (by intro h; injection h; omega), h.cell j hj]
      simp [e]
  free j := by rw [World.frozen?_setCell]; exact h.free j
  lt := by rw [World.size_setCell]; exact h.lt
theorem CellsAt.other {w : World} {b c : Nat} {cs : List Value} (h : CellsAt w b cs) (hbc : c ≠ b) (k : Nat) (v : Value) : CellsAt (w.setCell ⟨c, k, none⟩ v) b cs where
  cell j hj := by rw [World.cell?_setCell_other _ _ _ _ (by intro h; injection h; omega)]; exact h.cell j hj
  free j := by rw [World.frozen?_setCell]; exact h.free j
  lt := by rw [World.size_setCell]; exact h.lt
end Go.Proofs.YtkenianfpfamcaaGreatDoor
namespace Go.Proofs.YtkenianfpfamcaaGreatDoor
open Go Go.RowKit
set_option maxHeartbeats 2000000

end Go.Proofs.YtkenianfpfamcaaGreatDoor
namespace Go.Proofs.YtkenianfpfamcaaGreatDoor
open Go Go.RowKit
set_option maxHeartbeats 1000000

end Go.Proofs.YtkenianfpfamcaaGreatDoor
