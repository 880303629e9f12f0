/- A block whose cells are known: behind a call that leaves old memory alone, behind a store. Contract of the document's Split: the date of a moment. -/
import Derived.Test.YtjalfddedikibaaGreatDoorMa
import Derived.Test.YtjalfddedikibaaGreatDoorStampCJ
namespace Go.Proofs.YtjalfddedikibaaGreatDoor
open Go Go.RowKit

structure CellsAt (w : World) (b : Nat) (cs : List Value) : Prop where
  cell : ∀ j (hj : j < cs.length), w.cell? ⟨b, j, none⟩ = some cs[j]
  free : ∀ j, w.frozen? ⟨b, j, none⟩ = false
  lt : b < w.heap.size
theorem CellsAt.first (w : World) (cs : List Value) (t : TypeId) : CellsAt (w.alloc (.cells cs.toArray t)) w.heap.size cs where
  cell j hj := by
    have := World.cell?_alloc_mark w cs.toArray t (0, 0) j
    rw [this]
    simp [hj]
  free j := by
    rw [World.frozen?_alloc_mark w cs.toArray t 0 0 j]
    simp
  lt := by show w.heap.size < (w.heap.push _).size; rw [Array.size_push]; omega
theorem CellsAt.next {w w' : World} {b : Nat} {cs : List Value} (h : CellsAt w b cs) (hb : Below w.heap.size w w') : CellsAt w' b cs where
  cell j hj := by rw [hb.cell (p := ⟨b, j, none⟩) h.lt]; exact h.cell j hj
  free j := by rw [hb.frozen (p := ⟨b, j, none⟩) h.lt]; exact h.free j
  lt := Nat.lt_of_lt_of_le h.lt hb.size
theorem CellsAt.set {w : World} {b : Nat} {cs : List Value} (h : CellsAt w b cs) (k : Nat) (hk : k < cs.length) (v : Value) : CellsAt (w.setCell ⟨b, k, none⟩ v) b (cs.set k v) where
  cell j hj := by
    rw [List.length_set] at hj
    by_cases e : k = j
    · subst e
      rw [World.cell?_setCell_same _ _ _ (h.cell k hk)]
      simp
    · rw [World.cell?_setCell_other _ _ _ _ (by intro h; injection h; omega), h.cell j hj]
      simp [e]
  free j := by rw [World.frozen?_setCell]; exact h.free j
  lt := by rw [World.size_setCell]; exact h.lt
theorem CellsAt.other {w : World} {b c : Nat} {cs : List Value} (h : CellsAt w b cs) (hbc : c ≠ b) (k : Nat) (v : Value) : CellsAt (w.setCell ⟨c, k, none⟩ v) b cs where
  cell j hj := by rw [World.cell?_setCell_other _ _ _ _ (by intro h; injection h; omega)]; exact h.cell j hj
  free j := by rw [World.frozen?_setCell]; exact h.free j
  lt := by rw [World.size_setCell]; exact h.lt
end Go.Proofs.YtjalfddedikibaaGreatDoor
namespace Go.Proofs.YtjalfddedikibaaGreatDoor
open Go Go.RowKit
set_option maxHeartbeats 2000000

theorem date_ret {w W : World} {D : Value} {E : Int} {y mo d h mi s wd : Int} {a : Act} (hres : Hid (D = dateV y mo d h mi s wd ∧ E = 0))
    (F : CellsAt W w.heap.size [.int .i64 y, .int .i64 mo, .int .i64 d, .int .i64 h, .int .i64 mi, .int .i64 s, .int .i64 wd]) (B : Below w.heap.size w W)
    (h2 : a.tmps[2]? = some (.pointer (some ⟨w.heap.size, 0, none⟩))) (h3 : a.tmps[3]? = some (.int .i64 0)) (hd : a.defers = []) :
    bodyPost Tryz.prog Tryz.f97 (fun e w' => e = Ending.returned (.tuple #[D, .int .i64 E]) ∧ Below w.heap.size w w') Exit.ret a W := by
  have e0 := F.cell 0 (by simp)
  have e1 := F.cell 1 (by simp)
  have e2 := F.cell 2 (by simp)
  have e3 := F.cell 3 (by simp)
  have e4 := F.cell 4 (by simp)
  have e5 := F.cell 5 (by simp)
  have e6 := F.cell 6 (by simp)
  simp only [List.getElem_cons_zero, List.getElem_cons_succ] at e0 e1 e2 e3 e4 e5 e6
  refine bodyPost_ret (v := .tuple #[dateV y mo d h mi s wd, .int .i64 0]) ?_ hd ⟨by rw [hres.out.1, hres.out.2], B⟩
  simp [results, Tryz.results97, go_sem, dateV, h2, h3, e0, e1, e2, e3, e4, e5, e6]

set_option maxRecDepth 100000 in
theorem rsplit_any (m : Int) (w : World) :
    Calls Tryz.prog 97 #[.int .i64 m] w fun e w' => e = .returned (.tuple #[splitD m, .int .i64 (splitE m)]) ∧ Below w.heap.size w w' := by
  obtain ⟨D, hD⟩ := name_it (splitD m)
  obtain ⟨E, hE⟩ := name_it (splitE m)
  rw [hD.out, hE.out]
  by_cases hm : -62135596800 ≤ m ∧ m ≤ 253402300799
  · have hok : isMom m = true := by unfold isMom; exact decide_eq_true hm
    obtain ⟨m1, m2⟩ := hm
    obtain ⟨n, hn⟩ := name_it (splitN m)
    obtain ⟨r, hr⟩ := name_it (splitR m)
    have hres : Hid (D = dateV (Cal.yOf n) (Cal.mOf n) (Cal.dOf n) (r / 3600) (r / 60 % 60) (r % 60) (n % 7) ∧ E = 0) := by
      rw [← hD.out, ← hE.out]; unfold Hid splitD splitE; rw [if_pos hok, if_pos hok, hn.out, hr.out]; exact ⟨rfl, rfl⟩
    clear hD hE
    have n0 : 0 ≤ n := by rw [← hn.out]; unfold splitN; omega
    have n1 : n < 3652059 := by rw [← hn.out]; unfold splitN; omega
    have r0 : 0 ≤ r := by rw [← hr.out]; unfold splitR; omega
    have r1 : r < 86400 := by rw [← hr.out]; unfold splitR; omega
    have hnr : 86400 * (n - 719162) + r = m := by rw [← hr.out, ← hn.out]; unfold splitR splitN; omega
    have hyo := Cal.yOf_ok n0 n1
    have hdate := Cal.isDate_of n0 n1
    obtain ⟨Y, hY⟩ := name_it (Cal.yOf n)
    obtain ⟨M, hM⟩ := name_it (Cal.mOf n)
    obtain ⟨d, hd⟩ := name_it (Cal.dOf n)
    rw [hY.out] at hyo hdate
    rw [hM.out, hd.out] at hdate
    rw [hY.out, hM.out, hd.out] at hres
    obtain ⟨y1, y2, y3, y4⟩ := hyo
    obtain ⟨q, hq⟩ := name_it (m.tdiv 86400)
    obtain ⟨t, ht⟩ := name_it (m.tmod 86400)
    have hq' : m.tdiv 86400 = q := hq.out
    have ht' : m.tmod 86400 = t := ht.out
    have hmd := Int.tmod_add_mul_tdiv m 86400
    rw [hq', ht'] at hmd
    have hb1 := Int.tmod_lt_of_pos m (b := 86400) (by omega)
    have hb2 : -86400 < t := by
      have := Int.tmod_lt_of_pos (-m) (b := 86400) (by omega)
      rw [Int.neg_tmod, ht'] at this; omega
    rw [ht'] at hb1
    by_cases htn : t < 0
    · have hA : q - 1 = n - 719162 := by omega
      have hB : t + 86400 = r := by omega
      have hwd : wday (n - 719162) = n % 7 := by unfold wday; omega
      have h70 := Cal.dby70
      go_enter Tryz.func97, Tryz.ntmps97
      go_wp2_with (go_at_call 71; refine (rweekday_any _ _ (by omega) (by omega)).mono ?_; rintro e w' ⟨rfl, rfl⟩)
      all_goals (try (exfalso; omega))
      go_loopw [4] (fun days wr => ∃ Y1 : Int, 1 ≤ Y1 ∧ Y1 ≤ 1970 ∧ (Y ≤ Y1 ∨ Y1 = 1970) ∧ days = .int .i64 (n - Cal.dby Y1) ∧
        wr = (w.alloc (.cells #[.int .i64 0, .int .i64 0, .int .i64 0, .int .i64 0, .int .i64 0, .int .i64 0, .int .i64 0] 144)).alloc (.cells #[.int .i64 Y1, .int .i64 1, .int .i64 0, .int .i64 (r / 3600), .int .i64 (r / 60 % 60), .int .i64 (r % 60), .int .i64 (n % 7)] 144)) (fun days _ => (0 - intOf days).toNat)
      case atStart => exact ⟨1970, by omega, by omega, Or.inr rfl, by rw [h70], rfl⟩
      case round =>
        obtain ⟨Y1, a1, a2, a3, rfl, rfl⟩ := hrel
        have hdb := Cal.dby_bd Y1 a1 (by omega)
        by_cases hlt : n < Cal.dby Y1
        · have hY1 : Y < Y1 := by
            rcases Int.lt_or_le Y Y1 with h | h
            · exact h
            · have := Cal.dby_mono Y1 Y h; omega
          have hs := Cal.dby_succ (Y1 - 1)
          rw [Int.sub_add_cancel] at hs
          have hyb := Cal.ydays_bd (Y1 - 1)
          have hdc := Cal.dby_bd (Y1 - 1) (by omega) (by omega)
          go_wp2_with (go_at_call 99; refine (rydays_any _ _).mono ?_; rintro e w' ⟨rfl, rfl⟩)
          all_goals (try (exfalso; omega))
          go_roundw
          case rel => exact ⟨Y1 - 1, by omega, by omega, by omega, by go_num, rfl⟩
          case measure => simp [intOf]; omega
        · have hY1 : Y1 ≤ Y := by
            rcases Int.lt_or_le Y Y1 with h | h
            · have := Cal.dby_mono (Y + 1) Y1 (by omega); omega
            · exact h
          have hyy := Cal.ydays_bd Y1
          go_wp2_with fail
          all_goals (try (exfalso; omega))
          go_loopw [4] (fun days wr => ∃ Y2 : Int, 1 ≤ Y2 ∧ Y2 ≤ Y ∧ days = .int .i64 (n - Cal.dby Y2) ∧
            wr = (w.alloc (.cells #[.int .i64 0, .int .i64 0, .int .i64 0, .int .i64 0, .int .i64 0, .int .i64 0, .int .i64 0] 144)).alloc (.cells #[.int .i64 Y2, .int .i64 1, .int .i64 0, .int .i64 (r / 3600), .int .i64 (r / 60 % 60), .int .i64 (r % 60), .int .i64 (n % 7)] 144)) (fun days _ => (intOf days).toNat)
          case atStart => exact ⟨Y1, a1, hY1, rfl, rfl⟩
          case round =>
            obtain ⟨Y2, c1, c2, rfl, rfl⟩ := hrel
            have hdc := Cal.dby_bd Y2 c1 (by omega)
            have hs := Cal.dby_succ Y2
            have hyb := Cal.ydays_bd Y2
            by_cases hz : Y2 < Y
            · have hle : Cal.dby (Y2 + 1) ≤ n := by have := Cal.dby_mono (Y2 + 1) Y (by omega); omega
              go_wp2_with (go_at_call 99; refine (rydays_any _ _).mono ?_; rintro e w' ⟨rfl, rfl⟩)
              all_goals (try (exfalso; omega))
              go_roundw
              case rel => exact ⟨Y2 + 1, by omega, by omega, by rw [hs]; go_num, rfl⟩
              case measure => simp [intOf]; omega
            · obtain rfl : Y2 = Y := by omega
              obtain ⟨d1, d2, d3, d4, d5⟩ := hdate
              have hcb := Cal.cum_bd Y2 M
              go_wp2_with (go_at_call 99; refine (rydays_any _ _).mono ?_; rintro e w' ⟨rfl, rfl⟩)
              all_goals (try (exfalso; omega))
              have hF1 := CellsAt.first w [.int .i64 0, .int .i64 0, .int .i64 0, .int .i64 0, .int .i64 0, .int .i64 0, .int .i64 0] 144
              have hF2 := CellsAt.first (w.alloc (.cells #[.int .i64 0, .int .i64 0, .int .i64 0, .int .i64 0, .int .i64 0, .int .i64 0, .int .i64 0] 144)) [.int .i64 Y2, .int .i64 1, .int .i64 0, .int .i64 (r / 3600), .int .i64 (r / 60 % 60), .int .i64 (r % 60), .int .i64 (n % 7)] 144
              have hF3 := hF1.next ((Below.refl _ _).alloc (Nat.le_refl _) (.cells #[.int .i64 Y2, .int .i64 1, .int .i64 0, .int .i64 (r / 3600), .int .i64 (r / 60 % 60), .int .i64 (r % 60), .int .i64 (n % 7)] 144))
              have hzz : (w.alloc (.cells #[.int .i64 0, .int .i64 0, .int .i64 0, .int .i64 0, .int .i64 0, .int .i64 0, .int .i64 0] 144)).heap.size = w.heap.size + 1 := Array.size_push ..
              rw [hzz] at hF2
              have hFb := (Below.refl w.heap.size w).alloc (Nat.le_refl _) (.cells #[.int .i64 0, .int .i64 0, .int .i64 0, .int .i64 0, .int .i64 0, .int .i64 0, .int .i64 0] 144)
              have hFc := hFb.alloc hFb.size (.cells #[.int .i64 Y2, .int .i64 1, .int .i64 0, .int .i64 (r / 3600), .int .i64 (r / 60 % 60), .int .i64 (r % 60), .int .i64 (n % 7)] 144)
              have G1 := Lib.hid hF3
              have G2 := Lib.hid hF2
              clear hF1 hF2 hF3 hzz hFb
              go_loopw [4] (fun day wr => ∃ mo : Int, 1 ≤ mo ∧ mo ≤ M ∧ day = .int .i64 (n - Cal.dby Y2 - Cal.cum Y2 mo) ∧
                Hid (CellsAt wr w.heap.size [.int .i64 0, .int .i64 0, .int .i64 0, .int .i64 0, .int .i64 0, .int .i64 0, .int .i64 0]) ∧
                Hid (CellsAt wr (w.heap.size + 1) [.int .i64 Y2, .int .i64 mo, .int .i64 0, .int .i64 (r / 3600), .int .i64 (r / 60 % 60), .int .i64 (r % 60), .int .i64 (n % 7)]) ∧
                Below w.heap.size w wr) (fun day _ => (intOf day).toNat)
              case atStart => exact ⟨1, by omega, d1, by rw [Cal.cum_one]; go_num, G1, G2, hFc⟩
              case round =>
                obtain ⟨mo, o1, o2, rfl, A1, A2, hbr⟩ := hrel
                have hcm := Cal.cum_bd Y2 mo
                have hmb := Cal.mdays_lo Y2 mo
                have hmp := Cal.mdays_pos Y2 mo o1 (by omega)
                have e0 := A2.out.cell 0 (by simp)
                have e1 := A2.out.cell 1 (by simp)
                simp only [List.getElem_cons_zero, List.getElem_cons_succ] at e0 e1
                by_cases hlt : mo < M
                · have hcl := Cal.cum_lt Y2 mo M o1 hlt d2
                  have hs := Cal.cum_succ Y2 mo o1 (by omega)
                  go_wp2_with fail
                  refine (rmdays_any _ _ _).mono ?_; rintro e w5 ⟨rfl, hb5⟩
                  have A1' := Lib.hid (A1.out.next hb5)
                  have A2' := Lib.hid (A2.out.next hb5)
                  have hbr5 := hbr.trans (hb5.mono hbr.size)
                  have e0 := A2'.out.cell 0 (by simp)
                  have e1 := A2'.out.cell 1 (by simp)
                  simp only [List.getElem_cons_zero, List.getElem_cons_succ] at e0 e1
                  go_wp2_with fail
                  all_goals (try (exfalso; omega))
                  refine (rmdays_any _ _ _).mono ?_; rintro e w6 ⟨rfl, hb6⟩
                  have A1'' := Lib.hid (A1'.out.next hb6)
                  have A2'' := Lib.hid (A2'.out.next hb6)
                  have hbr6 := hbr5.trans (hb6.mono hbr5.size)
                  have e0 := A2''.out.cell 0 (by simp)
                  have e1 := A2''.out.cell 1 (by simp)
                  have f1 := A2''.out.free 1
                  simp only [List.getElem_cons_zero, List.getElem_cons_succ] at e0 e1
                  go_wp2_with fail
                  all_goals (try (exfalso; omega))
                  go_roundw
                  case rel => exact ⟨mo + 1, by omega, by omega, by rw [hs]; go_num, A1''.out.other (by omega) 1 _, A2''.out.set 1 (by simp) (.int .i64 (mo + 1)), hbr6.setCell (by show w.heap.size ≤ w.heap.size + 1; omega) _⟩
                  case measure => simp [intOf]; omega
                · obtain rfl : mo = M := by omega
                  go_wp2_with fail
                  refine (rmdays_any _ _ _).mono ?_; rintro e w5 ⟨rfl, hb5⟩
                  have A1' := Lib.hid (A1.out.next hb5)
                  have A2' := Lib.hid (A2.out.next hb5)
                  have hbr5 := hbr.trans (hb5.mono hbr.size)
                  have hde : n - Cal.dby Y2 - Cal.cum Y2 mo + 1 = d := by omega
                  have e0 := A2'.out.cell 0 (by simp)
                  have e1 := A2'.out.cell 1 (by simp)
                  have e2 := A2'.out.cell 2 (by simp)
                  have e3 := A2'.out.cell 3 (by simp)
                  have e4 := A2'.out.cell 4 (by simp)
                  have e5 := A2'.out.cell 5 (by simp)
                  have e6 := A2'.out.cell 6 (by simp)
                  have f2 := A2'.out.free 2
                  have k0 := A1'.out.cell 0 (by simp)
                  have k1 := A1'.out.cell 1 (by simp)
                  have k2 := A1'.out.cell 2 (by simp)
                  have k3 := A1'.out.cell 3 (by simp)
                  have k4 := A1'.out.cell 4 (by simp)
                  have k5 := A1'.out.cell 5 (by simp)
                  have k6 := A1'.out.cell 6 (by simp)
                  have g0 := A1'.out.free 0
                  have g1 := A1'.out.free 1
                  have g2 := A1'.out.free 2
                  have g3 := A1'.out.free 3
                  have g4 := A1'.out.free 4
                  have g5 := A1'.out.free 5
                  have g6 := A1'.out.free 6
                  simp only [List.getElem_cons_zero, List.getElem_cons_succ] at e0 e1 e2 e3 e4 e5 e6 k0 k1 k2 k3 k4 k5 k6
                  go_wp2_with fail
                  all_goals (try (exfalso; omega))
                  have F : CellsAt _ w.heap.size [.int .i64 Y2, .int .i64 mo, .int .i64 d, .int .i64 (r / 3600), .int .i64 (r / 60 % 60), .int .i64 (r % 60), .int .i64 (n % 7)] :=
                    (((((((A1'.out.other (c := w.heap.size + 1) (by omega) 2 (.int .i64 d)).set 0 (by simp) (.int .i64 Y2)).set 1 (by simp) (.int .i64 mo)).set 2 (by simp) (.int .i64 d)).set 3 (by simp) (.int .i64 (r / 3600))).set 4 (by simp) (.int .i64 (r / 60 % 60))).set 5 (by simp) (.int .i64 (r % 60))).set 6 (by simp) (.int .i64 (n % 7))
                  have B := (((((((hbr5.setCell (p := ⟨w.heap.size + 1, 2, none⟩) (by show w.heap.size ≤ w.heap.size + 1; omega) (.int .i64 d)).setCell (p := ⟨w.heap.size, 0, none⟩) (Nat.le_refl _) (.int .i64 Y2)).setCell (p := ⟨w.heap.size, 1, none⟩) (Nat.le_refl _) (.int .i64 mo)).setCell (p := ⟨w.heap.size, 2, none⟩) (Nat.le_refl _) (.int .i64 d)).setCell (p := ⟨w.heap.size, 3, none⟩) (Nat.le_refl _) (.int .i64 (r / 3600))).setCell (p := ⟨w.heap.size, 4, none⟩) (Nat.le_refl _) (.int .i64 (r / 60 % 60))).setCell (p := ⟨w.heap.size, 5, none⟩) (Nat.le_refl _) (.int .i64 (r % 60))).setCell (p := ⟨w.heap.size, 6, none⟩) (Nat.le_refl _) (.int .i64 (n % 7))
                  refine (fun (key : ∀ W, CellsAt W w.heap.size [.int .i64 Y2, .int .i64 mo, .int .i64 d, .int .i64 (r / 3600), .int .i64 (r / 60 % 60), .int .i64 (r % 60), .int .i64 (n % 7)] → Below w.heap.size w W → bodyPost _ _ _ _ _ W) => key _ F B) ?_
                  intro W F B
                  exact date_ret hres F B rfl rfl rfl
    · have hA : q = n - 719162 := by omega
      have hB : t = r := by omega
      have hwd : wday (n - 719162) = n % 7 := by unfold wday; omega
      have h70 := Cal.dby70
      go_enter Tryz.func97, Tryz.ntmps97
      go_wp2_with (go_at_call 71; refine (rweekday_any _ _ (by omega) (by omega)).mono ?_; rintro e w' ⟨rfl, rfl⟩)
      all_goals (try (exfalso; omega))
      go_loopw [4] (fun days wr => ∃ Y1 : Int, 1 ≤ Y1 ∧ Y1 ≤ 1970 ∧ (Y ≤ Y1 ∨ Y1 = 1970) ∧ days = .int .i64 (n - Cal.dby Y1) ∧
        wr = (w.alloc (.cells #[.int .i64 0, .int .i64 0, .int .i64 0, .int .i64 0, .int .i64 0, .int .i64 0, .int .i64 0] 144)).alloc (.cells #[.int .i64 Y1, .int .i64 1, .int .i64 0, .int .i64 (r / 3600), .int .i64 (r / 60 % 60), .int .i64 (r % 60), .int .i64 (n % 7)] 144)) (fun days _ => (0 - intOf days).toNat)
      case atStart => exact ⟨1970, by omega, by omega, Or.inr rfl, by rw [h70], rfl⟩
      case round =>
        obtain ⟨Y1, a1, a2, a3, rfl, rfl⟩ := hrel
        have hdb := Cal.dby_bd Y1 a1 (by omega)
        by_cases hlt : n < Cal.dby Y1
        · have hY1 : Y < Y1 := by
            rcases Int.lt_or_le Y Y1 with h | h
            · exact h
            · have := Cal.dby_mono Y1 Y h; omega
          have hs := Cal.dby_succ (Y1 - 1)
          rw [Int.sub_add_cancel] at hs
          have hyb := Cal.ydays_bd (Y1 - 1)
          have hdc := Cal.dby_bd (Y1 - 1) (by omega) (by omega)
          go_wp2_with (go_at_call 99; refine (rydays_any _ _).mono ?_; rintro e w' ⟨rfl, rfl⟩)
          all_goals (try (exfalso; omega))
          go_roundw
          case rel => exact ⟨Y1 - 1, by omega, by omega, by omega, by go_num, rfl⟩
          case measure => simp [intOf]; omega
        · have hY1 : Y1 ≤ Y := by
            rcases Int.lt_or_le Y Y1 with h | h
            · have := Cal.dby_mono (Y + 1) Y1 (by omega); omega
            · exact h
          have hyy := Cal.ydays_bd Y1
          go_wp2_with fail
          all_goals (try (exfalso; omega))
          go_loopw [4] (fun days wr => ∃ Y2 : Int, 1 ≤ Y2 ∧ Y2 ≤ Y ∧ days = .int .i64 (n - Cal.dby Y2) ∧
            wr = (w.alloc (.cells #[.int .i64 0, .int .i64 0, .int .i64 0, .int .i64 0, .int .i64 0, .int .i64 0, .int .i64 0] 144)).alloc (.cells #[.int .i64 Y2, .int .i64 1, .int .i64 0, .int .i64 (r / 3600), .int .i64 (r / 60 % 60), .int .i64 (r % 60), .int .i64 (n % 7)] 144)) (fun days _ => (intOf days).toNat)
          case atStart => exact ⟨Y1, a1, hY1, rfl, rfl⟩
          case round =>
            obtain ⟨Y2, c1, c2, rfl, rfl⟩ := hrel
            have hdc := Cal.dby_bd Y2 c1 (by omega)
            have hs := Cal.dby_succ Y2
            have hyb := Cal.ydays_bd Y2
            by_cases hz : Y2 < Y
            · have hle : Cal.dby (Y2 + 1) ≤ n := by have := Cal.dby_mono (Y2 + 1) Y (by omega); omega
              go_wp2_with (go_at_call 99; refine (rydays_any _ _).mono ?_; rintro e w' ⟨rfl, rfl⟩)
              all_goals (try (exfalso; omega))
              go_roundw
              case rel => exact ⟨Y2 + 1, by omega, by omega, by rw [hs]; go_num, rfl⟩
              case measure => simp [intOf]; omega
            · obtain rfl : Y2 = Y := by omega
              obtain ⟨d1, d2, d3, d4, d5⟩ := hdate
              have hcb := Cal.cum_bd Y2 M
              go_wp2_with (go_at_call 99; refine (rydays_any _ _).mono ?_; rintro e w' ⟨rfl, rfl⟩)
              all_goals (try (exfalso; omega))
              have hF1 := CellsAt.first w [.int .i64 0, .int .i64 0, .int .i64 0, .int .i64 0, .int .i64 0, .int .i64 0, .int .i64 0] 144
              have hF2 := CellsAt.first (w.alloc (.cells #[.int .i64 0, .int .i64 0, .int .i64 0, .int .i64 0, .int .i64 0, .int .i64 0, .int .i64 0] 144)) [.int .i64 Y2, .int .i64 1, .int .i64 0, .int .i64 (r / 3600), .int .i64 (r / 60 % 60), .int .i64 (r % 60), .int .i64 (n % 7)] 144
              have hF3 := hF1.next ((Below.refl _ _).alloc (Nat.le_refl _) (.cells #[.int .i64 Y2, .int .i64 1, .int .i64 0, .int .i64 (r / 3600), .int .i64 (r / 60 % 60), .int .i64 (r % 60), .int .i64 (n % 7)] 144))
              have hzz : (w.alloc (.cells #[.int .i64 0, .int .i64 0, .int .i64 0, .int .i64 0, .int .i64 0, .int .i64 0, .int .i64 0] 144)).heap.size = w.heap.size + 1 := Array.size_push ..
              rw [hzz] at hF2
              have hFb := (Below.refl w.heap.size w).alloc (Nat.le_refl _) (.cells #[.int .i64 0, .int .i64 0, .int .i64 0, .int .i64 0, .int .i64 0, .int .i64 0, .int .i64 0] 144)
              have hFc := hFb.alloc hFb.size (.cells #[.int .i64 Y2, .int .i64 1, .int .i64 0, .int .i64 (r / 3600), .int .i64 (r / 60 % 60), .int .i64 (r % 60), .int .i64 (n % 7)] 144)
              have G1 := Lib.hid hF3
              have G2 := Lib.hid hF2
              clear hF1 hF2 hF3 hzz hFb
              go_loopw [4] (fun day wr => ∃ mo : Int, 1 ≤ mo ∧ mo ≤ M ∧ day = .int .i64 (n - Cal.dby Y2 - Cal.cum Y2 mo) ∧
                Hid (CellsAt wr w.heap.size [.int .i64 0, .int .i64 0, .int .i64 0, .int .i64 0, .int .i64 0, .int .i64 0, .int .i64 0]) ∧
                Hid (CellsAt wr (w.heap.size + 1) [.int .i64 Y2, .int .i64 mo, .int .i64 0, .int .i64 (r / 3600), .int .i64 (r / 60 % 60), .int .i64 (r % 60), .int .i64 (n % 7)]) ∧
                Below w.heap.size w wr) (fun day _ => (intOf day).toNat)
              case atStart => exact ⟨1, by omega, d1, by rw [Cal.cum_one]; go_num, G1, G2, hFc⟩
              case round =>
                obtain ⟨mo, o1, o2, rfl, A1, A2, hbr⟩ := hrel
                have hcm := Cal.cum_bd Y2 mo
                have hmb := Cal.mdays_lo Y2 mo
                have hmp := Cal.mdays_pos Y2 mo o1 (by omega)
                have e0 := A2.out.cell 0 (by simp)
                have e1 := A2.out.cell 1 (by simp)
                simp only [List.getElem_cons_zero, List.getElem_cons_succ] at e0 e1
                by_cases hlt : mo < M
                · have hcl := Cal.cum_lt Y2 mo M o1 hlt d2
                  have hs := Cal.cum_succ Y2 mo o1 (by omega)
                  go_wp2_with fail
                  refine (rmdays_any _ _ _).mono ?_; rintro e w5 ⟨rfl, hb5⟩
                  have A1' := Lib.hid (A1.out.next hb5)
                  have A2' := Lib.hid (A2.out.next hb5)
                  have hbr5 := hbr.trans (hb5.mono hbr.size)
                  have e0 := A2'.out.cell 0 (by simp)
                  have e1 := A2'.out.cell 1 (by simp)
                  simp only [List.getElem_cons_zero, List.getElem_cons_succ] at e0 e1
                  go_wp2_with fail
                  all_goals (try (exfalso; omega))
                  refine (rmdays_any _ _ _).mono ?_; rintro e w6 ⟨rfl, hb6⟩
                  have A1'' := Lib.hid (A1'.out.next hb6)
                  have A2'' := Lib.hid (A2'.out.next hb6)
                  have hbr6 := hbr5.trans (hb6.mono hbr5.size)
                  have e0 := A2''.out.cell 0 (by simp)
                  have e1 := A2''.out.cell 1 (by simp)
                  have f1 := A2''.out.free 1
                  simp only [List.getElem_cons_zero, List.getElem_cons_succ] at e0 e1
                  go_wp2_with fail
                  all_goals (try (exfalso; omega))
                  go_roundw
                  case rel => exact ⟨mo + 1, by omega, by omega, by rw [hs]; go_num, A1''.out.other (by omega) 1 _, A2''.out.set 1 (by simp) (.int .i64 (mo + 1)), hbr6.setCell (by show w.heap.size ≤ w.heap.size + 1; omega) _⟩
                  case measure => simp [intOf]; omega
                · obtain rfl : mo = M := by omega
                  go_wp2_with fail
                  refine (rmdays_any _ _ _).mono ?_; rintro e w5 ⟨rfl, hb5⟩
                  have A1' := Lib.hid (A1.out.next hb5)
                  have A2' := Lib.hid (A2.out.next hb5)
                  have hbr5 := hbr.trans (hb5.mono hbr.size)
                  have hde : n - Cal.dby Y2 - Cal.cum Y2 mo + 1 = d := by omega
                  have e0 := A2'.out.cell 0 (by simp)
                  have e1 := A2'.out.cell 1 (by simp)
                  have e2 := A2'.out.cell 2 (by simp)
                  have e3 := A2'.out.cell 3 (by simp)
                  have e4 := A2'.out.cell 4 (by simp)
                  have e5 := A2'.out.cell 5 (by simp)
                  have e6 := A2'.out.cell 6 (by simp)
                  have f2 := A2'.out.free 2
                  have k0 := A1'.out.cell 0 (by simp)
                  have k1 := A1'.out.cell 1 (by simp)
                  have k2 := A1'.out.cell 2 (by simp)
                  have k3 := A1'.out.cell 3 (by simp)
                  have k4 := A1'.out.cell 4 (by simp)
                  have k5 := A1'.out.cell 5 (by simp)
                  have k6 := A1'.out.cell 6 (by simp)
                  have g0 := A1'.out.free 0
                  have g1 := A1'.out.free 1
                  have g2 := A1'.out.free 2
                  have g3 := A1'.out.free 3
                  have g4 := A1'.out.free 4
                  have g5 := A1'.out.free 5
                  have g6 := A1'.out.free 6
                  simp only [List.getElem_cons_zero, List.getElem_cons_succ] at e0 e1 e2 e3 e4 e5 e6 k0 k1 k2 k3 k4 k5 k6
                  go_wp2_with fail
                  all_goals (try (exfalso; omega))
                  have F : CellsAt _ w.heap.size [.int .i64 Y2, .int .i64 mo, .int .i64 d, .int .i64 (r / 3600), .int .i64 (r / 60 % 60), .int .i64 (r % 60), .int .i64 (n % 7)] :=
                    (((((((A1'.out.other (c := w.heap.size + 1) (by omega) 2 (.int .i64 d)).set 0 (by simp) (.int .i64 Y2)).set 1 (by simp) (.int .i64 mo)).set 2 (by simp) (.int .i64 d)).set 3 (by simp) (.int .i64 (r / 3600))).set 4 (by simp) (.int .i64 (r / 60 % 60))).set 5 (by simp) (.int .i64 (r % 60))).set 6 (by simp) (.int .i64 (n % 7))
                  have B := (((((((hbr5.setCell (p := ⟨w.heap.size + 1, 2, none⟩) (by show w.heap.size ≤ w.heap.size + 1; omega) (.int .i64 d)).setCell (p := ⟨w.heap.size, 0, none⟩) (Nat.le_refl _) (.int .i64 Y2)).setCell (p := ⟨w.heap.size, 1, none⟩) (Nat.le_refl _) (.int .i64 mo)).setCell (p := ⟨w.heap.size, 2, none⟩) (Nat.le_refl _) (.int .i64 d)).setCell (p := ⟨w.heap.size, 3, none⟩) (Nat.le_refl _) (.int .i64 (r / 3600))).setCell (p := ⟨w.heap.size, 4, none⟩) (Nat.le_refl _) (.int .i64 (r / 60 % 60))).setCell (p := ⟨w.heap.size, 5, none⟩) (Nat.le_refl _) (.int .i64 (r % 60))).setCell (p := ⟨w.heap.size, 6, none⟩) (Nat.le_refl _) (.int .i64 (n % 7))
                  refine (fun (key : ∀ W, CellsAt W w.heap.size [.int .i64 Y2, .int .i64 mo, .int .i64 d, .int .i64 (r / 3600), .int .i64 (r / 60 % 60), .int .i64 (r % 60), .int .i64 (n % 7)] → Below w.heap.size w W → bodyPost _ _ _ _ _ W) => key _ F B) ?_
                  intro W F B
                  exact date_ret hres F B rfl rfl rfl
  · have hok : isMom m = false := by unfold isMom; exact decide_eq_false hm
    have hres : Hid (D = dateV 0 0 0 0 0 0 0 ∧ E = 40) := by
      rw [← hD.out, ← hE.out]; unfold Hid splitD splitE; rw [hok]; exact ⟨rfl, rfl⟩
    clear hD hE
    rcases (by omega : m < -62135596800 ∨ (-62135596800 ≤ m ∧ 253402300799 < m)) with h | ⟨h, h'⟩
    all_goals
      go_enter Tryz.func97, Tryz.ntmps97
      go_wp2_with fail
      all_goals (try (exfalso; omega))
      refine bodyPost_ret (v := .tuple #[dateV 0 0 0 0 0 0 0, .int .i64 40]) (by simp [results, Tryz.results97, go_sem, dateV]) rfl ⟨by rw [hres.out.1, hres.out.2], (Below.refl _ _).alloc (Nat.le_refl _) _⟩
end Go.Proofs.YtjalfddedikibaaGreatDoor
