/- Contracts of ledger's reader: a number. -/
import Derived.Test.YtfgaiopkclogmaaGreatDoorLedgCJ
namespace Go.Proofs.YtfgaiopkclogmaaGreatDoor
open Go Go.RowKit
set_option maxHeartbeats 4000000

set_option maxRecDepth 100000 in
theorem number_any (g : Nat) (s : ByteArray) (st : St) (w : World) (hr : Rdr w g s st) (hn : st.1 ≤ s.size) (hs : s.size ≤ 1073741824) :
    Calls Tryz.prog 68 #[.pointer (some ⟨g, 0, none⟩)] w fun e w' => e = .returned (.int .i64 (numS (L s) st).1) ∧ Rdr w' g s (numS (L s) st).2 ∧ Just g w w' := by
  obtain ⟨F, hF⟩ := name_it (numS (L s) st)
  rw [hF.out]
  have HR := Lib.hid hr
  clear hr
  obtain ⟨n0, b0⟩ := st
  simp only [] at hn
  cases b0 with
  | true =>
    have hf : Hid (F = (0, (n0, true))) := by rw [← hF.out]; rfl
    clear hF
    have x1 := HR.out.c1
    simp only [] at x1
    go_enter Tryz.func68, Tryz.ntmps68
    go_wp2_with fail
    go_quiet (fail)
    have R0 := Lib.hid (HR.out.next (below_drewN (Below.refl _ _) nq) HR.out.lt)
    have J0 := Lib.hid ((Just.refl g w).trans (Just.of (below_drewN (Below.refl _ _) nq) (Nat.le_refl _)))
    obtain ⟨w0, hw0⟩ := name_it (w.drewN nq)
    rw [hw0.out] at R0 J0
    rw [hw0.out]
    clear hw0 x1
    go_wp2_with fail
    go_loopw [3, 5] (fun v _ wr => v = .int .i64 0 ∧ wr = w0) (fun _ _ _ => 0)
    case atStart => exact ⟨rfl, rfl⟩
    case round =>
      obtain ⟨rfl, hwr⟩ := hrel
      obtain ⟨wq, hwq⟩ : ∃ wq, wq = wr := ⟨wr, rfl⟩
      subst hwq
      subst hwr
      have x0 := R0.out.c0
      have x1 := R0.out.c1
      have x2 := R0.out.c2
      have y2 := R0.out.f2
      simp only [] at x1 x2
      go_wp2_with fail
      go_quiet (fail)
      have R2 := Lib.hid ((R0.out.next (below_drewN (Below.refl _ _) nq) R0.out.lt).setBad true)
      have J2 := Lib.hid ((J0.out.trans (Just.of (below_drewN (Below.refl _ _) nq) (Nat.le_refl _))).trans (Just.set g 2 (wq.drewN nq) (.bool true)))
      go_wp2_with fail
      go_ret
      rw [hf.out]
      exact ⟨rfl, R2.out, J2.out⟩
  | false =>
    obtain ⟨Q, hQ⟩ := name_it (numK ((L s).drop n0) 0 0)
    have hf : Hid (F = (Q.1, (n0 + Q.2.1, Q.2.2))) := by
      rw [← hF.out]; unfold numS Hid
      rw [if_neg nf]
      show ((numK ((L s).drop n0) 0 0).1, (n0 + (numK ((L s).drop n0) 0 0).2.1, (numK ((L s).drop n0) 0 0).2.2)) = _
      rw [hQ.out]
    clear hF
    have x1 := HR.out.c1
    simp only [] at x1
    go_enter Tryz.func68, Tryz.ntmps68
    go_wp2_with fail
    go_quiet (fail)
    have R0 := Lib.hid (HR.out.next (below_drewN (Below.refl _ _) nq) HR.out.lt)
    have J0 := Lib.hid ((Just.refl g w).trans (Just.of (below_drewN (Below.refl _ _) nq) (Nat.le_refl _)))
    obtain ⟨w0, hw0⟩ := name_it (w.drewN nq)
    rw [hw0.out] at R0 J0
    rw [hw0.out]
    clear hw0 x1
    go_wp2_with fail
    go_loopw [3, 5] (fun v _ wr => ∃ (j : Nat) (x : Int), n0 + j ≤ s.size ∧ v = .int .i64 x ∧ 0 ≤ x ∧ x ≤ 9223372036854775807 ∧ Hid (Rdr wr g s (n0 + j, false)) ∧ Hid (numK ((L s).drop (n0 + j)) x j = Q) ∧ Hid (Just g w wr)) (fun _ _ wr => s.size + 1 - rdAt wr g)
    case atStart => exact ⟨0, 0, hn, rfl, Int.le_refl _, by omega, R0, hQ, J0⟩
    clear R0 J0 hQ HR
    case round =>
      obtain ⟨j, x, hnj, rfl, hx0, hx1, hR, hq, hJ⟩ := hrel
      obtain ⟨wq, hwq⟩ : ∃ wq, wq = wr := ⟨wr, rfl⟩
      subst hwq
      obtain ⟨n, hne⟩ : ∃ n, n = n0 + j := ⟨_, rfl⟩
      rw [← hne] at hnj hR hq
      have HN := Lib.hid hne
      have q0 : n0 ≤ n := by omega
      have hjn : 0 < j ↔ n0 < n := by omega
      have HJN := Lib.hid hjn
      clear hne hjn
      have x0 := hR.out.c0
      have x1 := hR.out.c1
      have x2 := hR.out.c2
      have y2 := hR.out.f2
      have y1 := hR.out.f1
      simp only [] at x1 x2
      by_cases h1 : n < s.size
      · have d1 : decide ((n : Int) < (s.size : Int)) = true := decide_eq_true (by omega)
        have d1n : decide (n < s.size) = true := decide_eq_true h1
        have q4 : (0 : Int) ≤ (n : Int) := by omega
        have q5 : (n : Int) < (s.size : Int) := by omega
        have hq2 := hq.out
        rw [L_drop h1, numK] at hq2
        by_cases h3 : 48 ≤ s[n].toNat
        · have d3 : decide ((48 : Int) ≤ (s[n].toNat : Int)) = true := decide_eq_true (by omega)
          have d3n : decide (48 ≤ s[n].toNat) = true := decide_eq_true h3
          by_cases h4 : s[n].toNat ≤ 57
          · have d4 : decide ((s[n].toNat : Int) ≤ 57) = true := decide_eq_true (by omega)
            have d4n : decide (s[n].toNat ≤ 57) = true := decide_eq_true h4
            rw [if_pos (show isDig s[n] = true from decide_eq_true ⟨h3, h4⟩)] at hq2
            have w1 : IntKind.u8.wrap ((s[n].toNat : Int) - 48) = (s[n].toNat : Int) - 48 := IntWalk.u8_in _ (by omega)
            have w2 : IntKind.i64.wrap ((s[n].toNat : Int) - 48) = (s[n].toNat : Int) - 48 := IntWalk.i64_in _ (by omega)
            have HQ := Lib.hid hq2
            clear hq hq2
            go_wp2_with fail
            go_quiet (fail)
            have R2 := Lib.hid (hR.out.next (below_drewN (Below.refl _ _) nq) hR.out.lt)
            have J2 := Lib.hid (hJ.out.trans (Just.of (below_drewN (Below.refl _ _) nq) (Nat.le_refl _)))
            obtain ⟨w2, hw2⟩ := name_it (wq.drewN nq)
            rw [hw2.out] at R2 J2
            rw [hw2.out]
            have HM := Lib.hid hR.out.rdAt
            clear hw2 x0 x1 x2 y1 y2 hR hJ d1 d1n d3 d3n d4 d4n
            have x0 := R2.out.c0
            have x1 := R2.out.c1
            simp only [] at x1
            go_wp2_with fail
            go_quiet (fail)
            have R3 := Lib.hid (R2.out.next (below_drewN (Below.refl _ _) nq) R2.out.lt)
            have J3 := Lib.hid (J2.out.trans (Just.of (below_drewN (Below.refl _ _) nq) (Nat.le_refl _)))
            obtain ⟨w3, hw3⟩ := name_it (w2.drewN nq)
            rw [hw3.out] at R3 J3
            rw [hw3.out]
            clear hw3 x0 x1 R2 J2
            have x1 := R3.out.c1
            have x2 := R3.out.c2
            have y1 := R3.out.f1
            have y2 := R3.out.f2
            simp only [] at x1 x2
            obtain ⟨D, hD⟩ : ∃ D, (s[n].toNat : Int) - 48 = D := ⟨_, rfl⟩
            have hDg : dg s[n] = D := hD
            have hD0 : 0 ≤ D := by omega
            have hD9 : D ≤ 9 := by omega
            rw [hDg] at HQ
            rw [hD]
            clear w1 w2 hDg hD
            by_cases hbad : (0 < j ∧ x = 0) ∨ (mostI - D) / 10 < x
            · have hq2 := HQ.out
              rw [if_pos hbad] at hq2
              have hf2 : Hid (F = (0, (n, true))) := by have := hf.out; rw [← hq2] at this; simp only [] at this; rw [← HN.out] at this; exact this
              have hjn := HJN.out
              unfold mostI at hbad
              have R4 := Lib.hid (R3.out.setBad true)
              have J4 := Lib.hid (J3.out.trans (Just.set g 2 w3 (.bool true)))
              clear hq2 HQ hf
              go_wp2_with fail
              all_goals (try (exfalso; omega))
              all_goals
                go_ret
                rw [hf2.out]
                exact ⟨rfl, R4.out, J4.out⟩
            · have hq2 := HQ.out
              rw [if_neg hbad] at hq2
              have HQ2 := Lib.hid hq2
              have hjn := HJN.out
              unfold mostI at hbad
              have R4 := Lib.hid (R3.out.setAt (n + 1))
              have J4 := Lib.hid (J3.out.trans (Just.set g 1 w3 (.int .i64 ((n + 1 : Nat) : Int))))
              clear hq2 HQ
              go_wp2_with fail
              all_goals (try (exfalso; omega))
              all_goals
                go_roundw
                case rel =>
                  have hh := HN.out
                  refine ⟨j + 1, 10 * x + D, by omega, by go_num, by omega, by omega, ?_, ?_, J4⟩
                  · rw [show n0 + (j + 1) = n + 1 by omega]; exact R4
                  · rw [show n0 + (j + 1) = n + 1 by omega]; exact HQ2
                case measure =>
                  have e1 := HM.out
                  have e2 : rdAt (w3.setCell ⟨g, 1, none⟩ (.int .i64 ((n : Int) + 1))) g = n + 1 := R4.out.rdAt
                  omega
          · have d4 : decide ((s[n].toNat : Int) ≤ 57) = false := decide_eq_false (by omega)
            have d4n : decide (s[n].toNat ≤ 57) = false := decide_eq_false h4
            rw [if_neg (show ¬ isDig s[n] = true from fun e => by have := of_decide_eq_true e; omega)] at hq2
            have hf2 : Hid (F = (x, (n, decide (j = 0)))) := by have := hf.out; rw [← hq2] at this; simp only [] at this; rw [← HN.out] at this; exact this
            obtain ⟨bb, hbb⟩ := name_it (decide (j = 0))
            rw [hbb.out] at hf2
            have hbz : ((n : Int) == (n0 : Int)) = bb := by
              rw [← hbb.out, Bool.eq_iff_iff, beq_iff_eq, decide_eq_true_eq]
              have := HN.out
              omega
            have hbz2 : (n == n0) = bb := by
              rw [← hbb.out, Bool.eq_iff_iff, beq_iff_eq, decide_eq_true_eq]
              have := HN.out
              omega
            clear hbb hq2 hq hf
            go_wp2_with fail
            go_quiet (fail)
            have R2 := Lib.hid ((hR.out.next (below_drewN (Below.refl _ _) nq) hR.out.lt).setBad bb)
            have J2 := Lib.hid ((hJ.out.trans (Just.of (below_drewN (Below.refl _ _) nq) (Nat.le_refl _))).trans (Just.set g 2 (wq.drewN nq) (.bool bb)))
            go_wp2_with fail
            go_ret
            rw [hf2.out]
            exact ⟨rfl, R2.out, J2.out⟩
        · have d3 : decide ((48 : Int) ≤ (s[n].toNat : Int)) = false := decide_eq_false (by omega)
          have d3n : decide (48 ≤ s[n].toNat) = false := decide_eq_false h3
          rw [if_neg (show ¬ isDig s[n] = true from fun e => by have := of_decide_eq_true e; omega)] at hq2
          have hf2 : Hid (F = (x, (n, decide (j = 0)))) := by have := hf.out; rw [← hq2] at this; simp only [] at this; rw [← HN.out] at this; exact this
          obtain ⟨bb, hbb⟩ := name_it (decide (j = 0))
          rw [hbb.out] at hf2
          have hbz : ((n : Int) == (n0 : Int)) = bb := by
            rw [← hbb.out, Bool.eq_iff_iff, beq_iff_eq, decide_eq_true_eq]
            have := HN.out
            omega
          have hbz2 : (n == n0) = bb := by
            rw [← hbb.out, Bool.eq_iff_iff, beq_iff_eq, decide_eq_true_eq]
            have := HN.out
            omega
          clear hbb hq2 hq hf
          go_wp2_with fail
          go_quiet (fail)
          have R2 := Lib.hid ((hR.out.next (below_drewN (Below.refl _ _) nq) hR.out.lt).setBad bb)
          have J2 := Lib.hid ((hJ.out.trans (Just.of (below_drewN (Below.refl _ _) nq) (Nat.le_refl _))).trans (Just.set g 2 (wq.drewN nq) (.bool bb)))
          go_wp2_with fail
          go_ret
          rw [hf2.out]
          exact ⟨rfl, R2.out, J2.out⟩
      · have d1 : decide ((n : Int) < (s.size : Int)) = false := decide_eq_false (by omega)
        have d1n : decide (n < s.size) = false := decide_eq_false h1
        have hq2 := hq.out
        rw [List.drop_of_length_le (by rw [L_length]; omega), numK] at hq2
        have hf2 : Hid (F = (x, (n, decide (j = 0)))) := by have := hf.out; rw [← hq2] at this; simp only [] at this; rw [← HN.out] at this; exact this
        obtain ⟨bb, hbb⟩ := name_it (decide (j = 0))
        rw [hbb.out] at hf2
        have hbz : ((n : Int) == (n0 : Int)) = bb := by
          rw [← hbb.out, Bool.eq_iff_iff, beq_iff_eq, decide_eq_true_eq]
          have := HN.out
          omega
        have hbz2 : (n == n0) = bb := by
          rw [← hbb.out, Bool.eq_iff_iff, beq_iff_eq, decide_eq_true_eq]
          have := HN.out
          omega
        clear hbb hq2 hq hf
        go_wp2_with fail
        go_quiet (fail)
        have R2 := Lib.hid ((hR.out.next (below_drewN (Below.refl _ _) nq) hR.out.lt).setBad bb)
        have J2 := Lib.hid ((hJ.out.trans (Just.of (below_drewN (Below.refl _ _) nq) (Nat.le_refl _))).trans (Just.set g 2 (wq.drewN nq) (.bool bb)))
        go_wp2_with fail
        go_ret
        rw [hf2.out]
        exact ⟨rfl, R2.out, J2.out⟩
end Go.Proofs.YtfgaiopkclogmaaGreatDoor
