/- Contract of stamp's Split: the date of a moment. -/
import Derived.Test.YtjalfddedikibaaGreatDoorStampBJ
namespace Go.Proofs.YtjalfddedikibaaGreatDoor
open Go Go.RowKit
set_option maxHeartbeats 2000000

def dateV (y mo d h mi s wd : Int) : Value := .agg #[.int .i64 y, .int .i64 mo, .int .i64 d, .int .i64 h, .int .i64 mi, .int .i64 s, .int .i64 wd]
def splitN (m : Int) : Int := (m + 62135596800) / 86400
def splitR (m : Int) : Int := (m + 62135596800) % 86400
def isMom (m : Int) : Bool := decide (-62135596800 ≤ m ∧ m ≤ 253402300799)
def splitD (m : Int) : Value :=
  if isMom m = true then dateV (Cal.yOf (splitN m)) (Cal.mOf (splitN m)) (Cal.dOf (splitN m)) (splitR m / 3600) (splitR m / 60 % 60) (splitR m % 60) (splitN m % 7) else dateV 0 0 0 0 0 0 0
def splitE (m : Int) : Int := if isMom m = true then 0 else 40

set_option maxRecDepth 100000 in
theorem split_any (m : Int) (w : World) :
    Calls Tryz.prog 116 #[.int .i64 m] w fun e w' => e = .returned (.tuple #[splitD m, .int .i64 (splitE m)]) ∧ Below w.heap.size w w' := by
  obtain ⟨D, hD⟩ := name_it (splitD m)
  obtain ⟨E, hE⟩ := name_it (splitE m)
  rw [hD.out, hE.out]
  by_cases hm : -62135596800 ≤ m ∧ m ≤ 253402300799
  · have hok : isMom m = true := by unfold isMom; exact decide_eq_true hm
    have hdec : decide (-62135596800 ≤ m ∧ m ≤ 253402300799) = true := decide_eq_true hm
    obtain ⟨m1, m2⟩ := hm
    obtain ⟨n, hn⟩ := name_it (splitN m)
    obtain ⟨r, hr⟩ := name_it (splitR m)
    have hres : Hid (D = dateV (Cal.yOf n) (Cal.mOf n) (Cal.dOf n) (r / 3600) (r / 60 % 60) (r % 60) (n % 7) ∧ E = 0) := by
      rw [← hD.out, ← hE.out]; unfold Hid splitD splitE; rw [if_pos hok, if_pos hok, hn.out, hr.out]; exact ⟨rfl, rfl⟩
    clear hD hE
    have n0 : 0 ≤ n := by rw [← hn.out]; unfold splitN; omega
    have n1 : n < 3652059 := by rw [← hn.out]; unfold splitN; omega
    have r0 : 0 ≤ r := by rw [← hr.out]; unfold splitR; omega
    have r1 : r < 86400 := by rw [← hr.out]; unfold splitR; omega
    have hnd : (m + 62135596800) / 86400 = n := hn.out
    have hrd : (m + 62135596800) % 86400 = r := hr.out
    have hyo := Cal.yOf_ok n0 n1
    have hdate := Cal.isDate_of n0 n1
    obtain ⟨Y, hY⟩ := name_it (Cal.yOf n)
    obtain ⟨M, hM⟩ := name_it (Cal.mOf n)
    obtain ⟨d, hd⟩ := name_it (Cal.dOf n)
    rw [hY.out] at hyo hdate
    rw [hM.out, hd.out] at hdate
    rw [hY.out, hM.out, hd.out] at hres
    obtain ⟨y1, y2, y3, y4⟩ := hyo
    go_enter Tryz.func116, Tryz.ntmps116
    go_wp2_with fail
    refine (ismoment_any _ _).mono ?_; rintro e w1 ⟨rfl, rfl⟩
    rw [hdec]
    have hg := Cal.dby_guess n n0
    have hgY : n / 366 + 1 ≤ Y := by
      rcases Int.lt_or_le Y (n / 366 + 1) with h | h
      · have := Cal.dby_mono (Y + 1) (n / 366 + 1) (by omega); omega
      · exact h
    go_wp2_with fail
    simp only [hnd, hrd]
    go_loop [6] (fun y => ∃ Y' : Int, 1 ≤ Y' ∧ Y' ≤ Y ∧ y = .int .i64 Y') (fun y => (10000 - intOf y).toNat)
    case atStart => exact ⟨n / 366 + 1, by omega, hgY, rfl⟩
    case round =>
      obtain ⟨Y', z1, z2, rfl⟩ := hrel
      by_cases hz : Y' < Y
      · have hle : Cal.dby (Y' + 1) ≤ n := by have := Cal.dby_mono (Y' + 1) Y (by omega); omega
        go_wp2_with (go_at_call 135; refine (ydays_any _ _ (by omega) (by omega)).mono ?_; rintro e w' ⟨rfl, rfl⟩)
        all_goals (try (exfalso; omega))
        go_round
        case rel => exact ⟨Y' + 1, by omega, by omega, by go_num⟩
        case measure => simp [intOf]; omega
      · obtain rfl : Y' = Y := by omega
        have hdb := Cal.dby_bd Y' z1 (by omega)
        obtain ⟨d1, d2, d3, d4, d5⟩ := hdate
        have hcb := Cal.cum_bd Y' M
        go_wp2_with (go_at_call 135; refine (ydays_any _ _ (by omega) (by omega)).mono ?_; rintro e w' ⟨rfl, rfl⟩)
        all_goals (try (exfalso; omega))
        go_loopw [8] (fun day wr => ∃ mo : Int, 1 ≤ mo ∧ mo ≤ M ∧ day = .int .i64 (n - Cal.dby Y' - Cal.cum Y' mo) ∧
          wr = (w.alloc (.cells #[.int .i64 0, .int .i64 0, .int .i64 0, .int .i64 0, .int .i64 0, .int .i64 0, .int .i64 0] 129)).alloc (.cells #[.int .i64 Y', .int .i64 mo, .int .i64 0, .int .i64 (r / 3600), .int .i64 (r / 60 % 60), .int .i64 (r % 60), .int .i64 (n % 7)] 129))
          (fun day _ => (intOf day).toNat)
        case atStart => exact ⟨1, by omega, d1, by rw [Cal.cum_one]; go_num, rfl⟩
        case round =>
          obtain ⟨mo, o1, o2, rfl, rfl⟩ := hrel
          have hcm := Cal.cum_bd Y' mo
          have hmb := Cal.mdays_lo Y' mo
          have hmp := Cal.mdays_pos Y' mo o1 (by omega)
          by_cases hlt : mo < M
          · have hcl := Cal.cum_lt Y' mo M o1 hlt d2
            have hs := Cal.cum_succ Y' mo o1 (by omega)
            go_wp2_with (go_at_call 136; refine (mdays_any _ _ _).mono ?_; rintro e w' ⟨rfl, rfl⟩)
            all_goals (try (exfalso; omega))
            go_roundw
            case rel => exact ⟨mo + 1, by omega, by omega, by rw [hs]; go_num, rfl⟩
            case measure => simp [intOf]; omega
          · obtain rfl : mo = M := by omega
            go_wp2_with (go_at_call 136; refine (mdays_any _ _ _).mono ?_; rintro e w' ⟨rfl, rfl⟩)
            all_goals (try (exfalso; omega))
            have hde : n - Cal.dby Y' - Cal.cum Y' mo + 1 = d := by omega
            rw [hde]
            have hb1 := (Below.refl w.heap.size w).alloc (Nat.le_refl _) (.cells #[.int .i64 Y', .int .i64 mo, .int .i64 d, .int .i64 (r / 3600), .int .i64 (r / 60 % 60), .int .i64 (r % 60), .int .i64 (n % 7)] 129)
            have hb2 := hb1.alloc hb1.size (.cells #[.int .i64 Y', .int .i64 mo, .int .i64 d, .int .i64 (r / 3600), .int .i64 (r / 60 % 60), .int .i64 (r % 60), .int .i64 (n % 7)] 129)
            refine bodyPost_ret (v := .tuple #[dateV Y' mo d (r / 3600) (r / 60 % 60) (r % 60) (n % 7), .int .i64 0]) (by simp [results, Tryz.results116, go_sem, dateV]) rfl ⟨by rw [hres.out.1, hres.out.2], hb2⟩
  · have hok : isMom m = false := by unfold isMom; exact decide_eq_false hm
    have hdec : decide (-62135596800 ≤ m ∧ m ≤ 253402300799) = false := decide_eq_false hm
    have hres : Hid (D = dateV 0 0 0 0 0 0 0 ∧ E = 40) := by
      rw [← hD.out, ← hE.out]; unfold Hid splitD splitE; rw [hok]; exact ⟨rfl, rfl⟩
    clear hD hE
    go_enter Tryz.func116, Tryz.ntmps116
    go_wp2_with fail
    refine (ismoment_any _ _).mono ?_; rintro e w1 ⟨rfl, rfl⟩
    rw [hdec]
    go_wp2_with fail
    refine bodyPost_ret (v := .tuple #[dateV 0 0 0 0 0 0 0, .int .i64 40]) (by simp [results, Tryz.results116, go_sem, dateV]) rfl ⟨by rw [hres.out.1, hres.out.2], (Below.refl _ _).alloc (Nat.le_refl _) _⟩
end Go.Proofs.YtjalfddedikibaaGreatDoor
