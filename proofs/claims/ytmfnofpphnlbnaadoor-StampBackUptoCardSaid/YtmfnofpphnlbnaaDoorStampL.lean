/- The law's plain answers; StampCalendar, StampSplits, StampWrites, StampParses: the walks of the laws. -/
import Derived.Test.YtmfnofpphnlbnaaDoorStampVh
namespace Go.Proofs.YtmfnofpphnlbnaaDoor
open Go Go.RowKit
set_option maxHeartbeats 2000000

theorem date_is {n y m d : Int} (h0 : 0 ≤ n) (h1 : n < 3652059) (h : Cal.IsDate n y m d) : Cal.yOf n = y ∧ Cal.mOf n = m ∧ Cal.dOf n = d := Cal.isDate_unique (Cal.isDate_of h0 h1) h
theorem write_plain : writeV 784111777 0 = .tuple #[.string ⟨#[83, 117, 110, 44, 32, 48, 54, 32, 78, 111, 118, 32, 49, 57, 57, 52, 32, 48, 56, 58, 52, 57, 58, 51, 55, 32, 71, 77, 84]⟩, .int .i64 0] := by
  have h := date_is (n := splitN 784111777) (y := 1994) (m := 11) (d := 6) (by decide) (by decide) ⟨by decide, by decide, by decide, by decide, by decide⟩
  unfold writeV writeOf
  rw [h.1, h.2.1, h.2.2]
  rfl
theorem now_plain : nowY 0 = 1970 := (date_is (n := splitN 0) (y := 1970) (m := 1) (d := 1) (by decide) (by decide) ⟨by decide, by decide, by decide, by decide, by decide⟩).1
theorem parse_plain : parseV (Stm.parseP (L ⟨#[83, 117, 110, 32, 78, 111, 118, 32, 32, 54, 32, 48, 56, 58, 52, 57, 58, 51, 55, 32, 49, 57, 57, 52]⟩) (isMom 0) (nowY 0)) = .tuple #[.int .i64 784111777, .int .i64 2, .int .i64 0, .int .i64 0] := by
  rw [now_plain]
  have : Stm.parseP (L ⟨#[83, 117, 110, 32, 78, 111, 118, 32, 32, 54, 32, 48, 56, 58, 52, 57, 58, 51, 55, 32, 49, 57, 57, 52]⟩) (isMom 0) 1970 = ⟨784111777, 2, 0, 0⟩ := by decide +kernel
  rw [this]; rfl
set_option maxRecDepth 100000 in
theorem awake_any (w : World) (hE : EnvS w) :
    Calls Tryd.prog 13 #[] w fun e w' => e = .returned (.bool true) ∧ Below w.heap.size w w' := by
  have HE := Lib.hid hE
  clear hE
  have m1 : Hid (Cal.mdays 2024 2 = 29) := by unfold Hid; decide
  have m2 : Hid (Cal.mdays 2023 2 = 28) := by unfold Hid; decide
  go_enter Tryd.func13, Tryd.ntmps13
  go_wp2_with fail
  refine (mdays_any 2024 2 _).mono ?_; rintro e w1 ⟨rfl, rfl⟩
  rw [m1.out]
  go_wp2_with fail
  refine (mdays_any 2023 2 _).mono ?_; rintro e w1 ⟨rfl, rfl⟩
  rw [m2.out]
  go_wp2_with fail
  refine (print_any 784111777 _ HE.out).mono ?_; rintro e w1 ⟨rfl, hb1⟩
  rw [write_plain]
  have HE1 := Lib.hid (HE.out.next hb1)
  go_wp2_with fail
  refine (parse_any ⟨#[83, 117, 110, 32, 78, 111, 118, 32, 32, 54, 32, 48, 56, 58, 52, 57, 58, 51, 55, 32, 49, 57, 57, 52]⟩ 0 _ HE1.out (by decide)).mono ?_; rintro e w2 ⟨rfl, hb2⟩
  rw [parse_plain]
  go_wp2_with fail
  go_ret
  exact ⟨rfl, hb1.trans (hb2.mono hb1.size)⟩

set_option maxRecDepth 100000 in
theorem lawCalendar_any (y m d : Int) (w : World) (hE : EnvS w) :
    Calls Tryd.prog 3 #[.int .i64 y, .int .i64 m, .int .i64 d] w fun e w' => e = .returned (.bool true) ∧ Below w.heap.size w w' := by
  have HE := Lib.hid hE
  clear hE
  obtain ⟨N, hN⟩ := name_it (Cal.daysN y m d)
  obtain ⟨E, hEr⟩ := name_it (Cal.daysE y m d)
  obtain ⟨B, hB⟩ := name_it (Cal.leapB y)
  obtain ⟨M, hM⟩ := name_it (Cal.mdays y m)
  go_enter Tryd.func3, Tryd.ntmps3
  go_wp2_with fail
  refine (awake_any _ HE.out).mono ?_; rintro e w1 ⟨rfl, hb1⟩
  go_wp2_with fail
  refine (days_any _ _ _ _).mono ?_; rintro e w2 ⟨rfl, rfl⟩
  rw [hN.out, hEr.out]
  go_wp2_with fail
  refine (rdays_any _ _ _ _).mono ?_; rintro e w2 ⟨rfl, hb2⟩
  rw [hN.out, hEr.out]
  have hb12 := hb1.trans (hb2.mono hb1.size)
  go_wp2_with fail
  refine (leap_any _ _).mono ?_; rintro e w3 ⟨rfl, rfl⟩
  rw [hB.out]
  go_wp2_with fail
  refine (rleap_any _ _).mono ?_; rintro e w3 ⟨rfl, rfl⟩
  rw [hB.out]
  go_wp2_with fail
  refine (mdays_any _ _ _).mono ?_; rintro e w3 ⟨rfl, rfl⟩
  rw [hM.out]
  go_wp2_with fail
  refine (rmdays_any _ _ _).mono ?_; rintro e w3 ⟨rfl, hb3⟩
  rw [hM.out]
  have hb13 := hb12.trans (hb3.mono hb12.size)
  go_wp2_with fail
  go_ret
  exact ⟨rfl, hb13⟩

set_option maxRecDepth 100000 in
theorem lawWrites_any (m f : Int) (w : World) (hE : EnvS w) :
    Calls Tryd.prog 5 #[.int .i64 m, .int .i64 f] w fun e w' => e = .returned (.bool true) ∧ Below w.heap.size w w' := by
  have HE := Lib.hid hE
  clear hE
  obtain ⟨S1, E1, hV1⟩ : ∃ S E, Hid (writeV m f = .tuple #[.string S, .int .i64 E]) := ⟨_, _, rfl⟩
  obtain ⟨S2, E2, hV2⟩ : ∃ S E, Hid (writeV m 0 = .tuple #[.string S, .int .i64 E]) := ⟨_, _, rfl⟩
  go_enter Tryd.func5, Tryd.ntmps5
  go_wp2_with fail
  refine (awake_any _ HE.out).mono ?_; rintro e w1 ⟨rfl, hb1⟩
  have HE1 := Lib.hid (HE.out.next hb1)
  go_wp2_with fail
  refine (write_any _ _ _ HE1.out).mono ?_; rintro e w2 ⟨rfl, hb2⟩
  rw [hV1.out]
  have HE2 := Lib.hid (HE1.out.next hb2)
  have b2 := hb1.trans (hb2.mono hb1.size)
  go_wp2_with fail
  refine (rwrite_any _ _ _).mono ?_; rintro e w3 ⟨rfl, hb3⟩
  rw [hV1.out]
  have HE3 := Lib.hid (HE2.out.next hb3)
  have b3 := b2.trans (hb3.mono b2.size)
  go_wp2_with fail
  refine (print_any _ _ HE3.out).mono ?_; rintro e w4 ⟨rfl, hb4⟩
  rw [hV2.out]
  have b4 := b3.trans (hb4.mono b3.size)
  go_wp2_with fail
  refine (rwrite_any _ _ _).mono ?_; rintro e w5 ⟨rfl, hb5⟩
  rw [hV2.out]
  have b5 := b4.trans (hb5.mono b4.size)
  go_wp2_with fail
  go_ret
  exact ⟨rfl, b5⟩

set_option maxRecDepth 100000 in
theorem lawParses_any (s : ByteArray) (now : Int) (w : World) (hE : EnvS w) (hs : s.size ≤ 1048576) :
    Calls Tryd.prog 6 #[.string s, .int .i64 now] w fun e w' => e = .returned (.bool true) ∧ Below w.heap.size w w' := by
  have HE := Lib.hid hE
  clear hE
  obtain ⟨a, b, c, d, hV⟩ : ∃ a b c d, Hid (parseV (Stm.parseP (L s) (isMom now) (nowY now)) = .tuple #[.int .i64 a, .int .i64 b, .int .i64 c, .int .i64 d]) := ⟨_, _, _, _, rfl⟩
  go_enter Tryd.func6, Tryd.ntmps6
  go_wp2_with fail
  refine (awake_any _ HE.out).mono ?_; rintro e w1 ⟨rfl, hb1⟩
  have HE1 := Lib.hid (HE.out.next hb1)
  go_wp2_with fail
  refine (parse_any s now _ HE1.out (by omega)).mono ?_; rintro e w2 ⟨rfl, hb2⟩
  rw [hV.out]
  have b2 := hb1.trans (hb2.mono hb1.size)
  go_wp2_with fail
  refine (rparse_any s now _ (by omega)).mono ?_; rintro e w3 ⟨rfl, hb3⟩
  rw [hV.out]
  have b3 := b2.trans (hb3.mono b2.size)
  go_wp2_with fail
  go_ret
  exact ⟨rfl, b3⟩
end Go.Proofs.YtmfnofpphnlbnaaDoor
