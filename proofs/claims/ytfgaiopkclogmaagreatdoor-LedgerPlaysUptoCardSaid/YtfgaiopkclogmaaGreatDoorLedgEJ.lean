/- Contracts of ledger's reader: a status. Printed by gen_status.py. -/
import Derived.Test.YtfgaiopkclogmaaGreatDoorLedgDJ
namespace Go.Proofs.YtfgaiopkclogmaaGreatDoor
open Go Go.RowKit
set_option maxHeartbeats 8000000

/-- A region of more than 64 operations is written as two lists: lay them flat before go_quiet. -/
theorem region_flat {P : Program} {id : Nat} {Q : Exit → Act → World → Prop} {a : Act} {w : World} {l l' : List Oper} (h : l = l') (k : (Code.region id l'.toArray true).wp P Q a w) : (Code.region id l.toArray true).wp P Q a w := h ▸ k
set_option maxRecDepth 100000 in
theorem status_any (g : Nat) (s : ByteArray) (st : St) (w : World) (hr : Rdr w g s st) (hn : st.1 ≤ s.size) (hs : s.size ≤ 1073741824) :
    Calls Tryz.prog 70 #[.pointer (some ⟨g, 0, none⟩)] w fun e w' => e = .returned (.int .i64 (stS (L s) st).1) ∧ Rdr w' g s (stS (L s) st).2 ∧ Just g w w' := by
  obtain ⟨F, hF⟩ := name_it (stS (L s) st)
  rw [hF.out]
  have HR := Lib.hid hr
  clear hr
  obtain ⟨n0, b0⟩ := st
  simp only [] at hn
  cases b0 with
  | true =>
    have hf : Hid (F = (0, (n0, true))) := by rw [← hF.out]; rfl
    clear hF
    go_enter Tryz.func70, Tryz.ntmps70
    go_wp2_with fail
    go_loopw [3, 4, 5] (fun v _ i wr => v = .int .i64 0 ∧ i = .int .i64 0 ∧ wr = w) (fun _ _ _ _ => 0)
    case atStart => exact ⟨rfl, rfl, rfl⟩
    case round =>
      obtain ⟨rfl, rfl, hwr⟩ := hrel
      obtain ⟨wq, hwq⟩ : ∃ wq, wq = wr := ⟨wr, rfl⟩
      subst hwq
      subst hwr
      have x0 := HR.out.c0
      have x1 := HR.out.c1
      have x2 := HR.out.c2
      have y2 := HR.out.f2
      simp only [] at x1 x2
      go_wp2_with fail
      refine region_flat (l' := ?lflat) ?hflat ?_
      case hflat => dsimp only [List.append]; try exact rfl
      go_quiet (fail)
      have J0 := Lib.hid (Just.refl g wq)
      have R2 := Lib.hid (HR.out.next (below_drewN (Below.refl _ _) nq) HR.out.lt)
      have J2 := Lib.hid (J0.out.trans (Just.of (below_drewN (Below.refl _ _) nq) (Nat.le_refl _)))
      obtain ⟨w2, hw2⟩ := name_it (wq.drewN nq)
      rw [hw2.out] at R2 J2
      rw [hw2.out]
      clear hw2
      clear x0 x1 x2 y2
      have x2 := R2.out.c2
      have y2 := R2.out.f2
      simp only [] at x2
      have R8 := Lib.hid (R2.out.setBad true)
      have J8 := Lib.hid (J2.out.trans (Just.set g 2 w2 (.bool true)))
      go_wp2_with fail
      go_ret
      rw [hf.out]
      exact ⟨rfl, R8.out, J8.out⟩
  | false =>
    obtain ⟨Q, hQ⟩ := name_it (stK 3 ((L s).drop n0) 0 0)
    have hf : Hid (F = (Q.1, (n0 + Q.2.1, Q.2.2))) := by
      rw [← hF.out]; unfold stS Hid
      rw [if_neg nf]
      show ((stK 3 ((L s).drop n0) 0 0).1, (n0 + (stK 3 ((L s).drop n0) 0 0).2.1, (stK 3 ((L s).drop n0) 0 0).2.2)) = _
      rw [hQ.out]
    clear hF
    go_enter Tryz.func70, Tryz.ntmps70
    go_wp2_with fail
    go_loopw [3, 4, 5] (fun v _ i wr => ∃ (j : Nat) (x : Int), j ≤ 3 ∧ n0 + j ≤ s.size ∧ i = .int .i64 j ∧ v = .int .i64 x ∧ 0 ≤ x ∧ (j = 0 → x = 0) ∧ (j = 1 → x ≤ 9) ∧ (j = 2 → x ≤ 99) ∧ x ≤ 999 ∧ Hid (Rdr wr g s (n0 + j, false)) ∧ Hid (stK (3 - j) ((L s).drop (n0 + j)) x j = Q) ∧ Hid (Just g w wr)) (fun _ _ i _ => 3 - (intOf i).toNat)
    case atStart => exact ⟨0, 0, by omega, hn, rfl, rfl, Int.le_refl _, by omega, by omega, by omega, by omega, HR, hQ, Just.refl _ _⟩
    clear hQ HR
    case round =>
      obtain ⟨j, x, hj, hnj, rfl, rfl, hx0, b0, b1, b2, b3, hR, hq, hJ⟩ := hrel
      obtain ⟨wq, hwq⟩ : ∃ wq, wq = wr := ⟨wr, rfl⟩
      subst hwq
      obtain ⟨n, hne⟩ : ∃ n, n = n0 + j := ⟨_, rfl⟩
      rw [← hne] at hnj hR hq
      have HN := Lib.hid hne
      clear hne
      have x0 := hR.out.c0
      have x1 := hR.out.c1
      have x2 := hR.out.c2
      have y2 := hR.out.f2
      have y1 := hR.out.f1
      simp only [] at x1 x2
      by_cases h3 : j < 3
      · have hq2 := hq.out
        rw [show 3 - j = (3 - (j + 1)) + 1 by omega] at hq2
        clear hq
        have HB : Hid (∀ k : Int, Q = (k, j, true) → F = (k, (n, true))) := by
          intro k h
          rw [hf.out, h, HN.out]
        have dj : decide ((j : Int) < 3) = true := decide_eq_true (by omega)
        have djn : decide (j < 3) = true := decide_eq_true h3
        have B9 : x ≤ 99 := by omega
        have HX0 : Hid ((j = 0 → x = 0) ∧ (j = 1 → x ≤ 9) ∧ (j = 2 → x ≤ 99)) := ⟨b0, b1, b2⟩
        clear b0 b1 b2 b3
        by_cases h1 : n < s.size
        · have e1 : ((n : Int) == (s.size : Int)) = false := by rw [beq_eq_false_iff_ne]; omega
          have e1n : (n == s.size) = false := by rw [beq_eq_false_iff_ne]; omega
          have q4 : (0 : Int) ≤ (n : Int) := by omega
          have q5 : (n : Int) < (s.size : Int) := by omega
          rw [L_drop h1, stK] at hq2
          by_cases h4 : 48 ≤ s[n].toNat
          · by_cases h5 : s[n].toNat ≤ 57
            · have hd : isDig s[n] = true := decide_eq_true ⟨h4, h5⟩
              have d3 : decide ((s[n].toNat : Int) < 48) = false := decide_eq_false (by omega)
              have d3n : decide (s[n].toNat < 48) = false := decide_eq_false (by omega)
              have d4 : decide ((57 : Int) < (s[n].toNat : Int)) = false := decide_eq_false (by omega)
              have d4n : decide (57 < s[n].toNat) = false := decide_eq_false (by omega)
              have HR0 := Lib.hid hR.out.rdAt
              by_cases hj0 : j = 0
              · have ej : ((j : Int) == 0) = true := by rw [beq_iff_eq]; omega
                have ejn : (j == 0) = true := by rw [beq_iff_eq]; exact hj0
                have HJ0 := Lib.hid hj0
                by_cases h6 : 49 ≤ s[n].toNat
                · have d6 : decide ((s[n].toNat : Int) < 49) = false := decide_eq_false (by omega)
                  have d6n : decide (s[n].toNat < 49) = false := decide_eq_false (by omega)
                  by_cases h7 : s[n].toNat ≤ 53
                  · have d7 : decide ((53 : Int) < (s[n].toNat : Int)) = false := decide_eq_false (by omega)
                    have d7n : decide (53 < s[n].toNat) = false := decide_eq_false (by omega)
                    rw [if_neg (show ¬ (isDig s[n] = false ∨ (j = 0 ∧ ¬ (49 ≤ s[n].toNat ∧ s[n].toNat ≤ 53))) from fun e => by rcases e with e | e; rw [hd] at e; cases e; exact e.2 ⟨h6, h7⟩)] at hq2
                    have HQ := Lib.hid hq2
                    clear hq2 HB
                    go_wp2_with fail
                    refine region_flat (l' := ?lflat) ?hflat ?_
                    case hflat => dsimp only [List.append]; try exact rfl
                    go_quiet (fail)
                    have R2 := Lib.hid (hR.out.next (below_drewN (Below.refl _ _) nq) hR.out.lt)
                    have J2 := Lib.hid (hJ.out.trans (Just.of (below_drewN (Below.refl _ _) nq) (Nat.le_refl _)))
                    obtain ⟨w2, hw2⟩ := name_it (wq.drewN nq)
                    rw [hw2.out] at R2 J2
                    rw [hw2.out]
                    clear hw2
                    clear x0 x1 x2 y1 y2 d3 d3n d4 d4n e1 e1n dj djn
                    try clear d6 d6n d7 d7n
                    try clear ej ejn
                    have ww1 : IntKind.u8.wrap ((s[n].toNat : Int) - 48) = (s[n].toNat : Int) - 48 := IntWalk.u8_in _ (by omega)
                    have ww2 : IntKind.i64.wrap ((s[n].toNat : Int) - 48) = (s[n].toNat : Int) - 48 := IntWalk.i64_in _ (by omega)
                    have ww3 : IntKind.i64.wrap (10 * x) = 10 * x := IntWalk.i64_in _ (by omega)
                    have ww4 : IntKind.i64.wrap (10 * x + ((s[n].toNat : Int) - 48)) = 10 * x + ((s[n].toNat : Int) - 48) := IntWalk.i64_in _ (by omega)
                    have x0 := R2.out.c0
                    have x1 := R2.out.c1
                    simp only [] at x1
                    go_wp2_with fail
                    go_quiet (fail)
                    have R3 := Lib.hid (R2.out.next (below_drewN (Below.refl _ _) nq) R2.out.lt)
                    have J3 := Lib.hid (J2.out.trans (Just.of (below_drewN (Below.refl _ _) nq) (Nat.le_refl _)))
                    obtain ⟨w3, hw3⟩ := name_it (w2.drewN nq)
                    rw [hw3.out] at R3 J3
                    rw [hw3.out]
                    clear hw3
                    clear x0 x1 ww1 ww2 ww3 ww4 R2 J2
                    have x1 := R3.out.c1
                    have y1 := R3.out.f1
                    simp only [] at x1
                    obtain ⟨D, hD⟩ : ∃ D, (s[n].toNat : Int) - 48 = D := ⟨_, rfl⟩
                    have hDg : dg s[n] = D := hD
                    have hD0 : 0 ≤ D := by omega
                    have hD9 : D ≤ 9 := by omega
                    rw [hDg] at HQ
                    rw [hD]
                    clear hDg hD
                    have R4 := Lib.hid (R3.out.setAt (n + 1))
                    have J4 := Lib.hid (J3.out.trans (Just.set g 1 w3 (.int .i64 ((n + 1 : Nat) : Int))))
                    have HX := HX0.out
                    clear HX0
                    go_wp2_with fail
                    all_goals (try (exfalso; omega))
                    go_roundw
                    case rel =>
                      have hh := HN.out
                      refine ⟨j + 1, 10 * x + D, by omega, by omega, by go_num, by go_num, by omega, by omega, by omega, by omega, by omega, ?_, ?_, J4⟩
                      · rw [show n0 + (j + 1) = n + 1 by omega]; exact R4
                      · rw [show n0 + (j + 1) = n + 1 by omega]; exact HQ
                    case measure => simp [intOf]; omega
                  · have d7 : decide ((53 : Int) < (s[n].toNat : Int)) = true := decide_eq_true (by omega)
                    have d7n : decide (53 < s[n].toNat) = true := decide_eq_true (by omega)
                    rw [if_pos (show isDig s[n] = false ∨ (j = 0 ∧ ¬ (49 ≤ s[n].toNat ∧ s[n].toNat ≤ 53)) from Or.inr ⟨hj0, fun e => h7 e.2⟩)] at hq2
                    have hf2 := Lib.hid (HB.out 0 hq2.symm)
                    clear hq2 hf HB
                    clear hj0
                    go_wp2_with fail
                    refine region_flat (l' := ?lflat) ?hflat ?_
                    case hflat => dsimp only [List.append]; try exact rfl
                    go_quiet (fail)
                    have R2 := Lib.hid (hR.out.next (below_drewN (Below.refl _ _) nq) hR.out.lt)
                    have J2 := Lib.hid (hJ.out.trans (Just.of (below_drewN (Below.refl _ _) nq) (Nat.le_refl _)))
                    obtain ⟨w2, hw2⟩ := name_it (wq.drewN nq)
                    rw [hw2.out] at R2 J2
                    rw [hw2.out]
                    clear hw2
                    clear x0 x1 x2 y1 y2
                    have x2 := R2.out.c2
                    have y2 := R2.out.f2
                    simp only [] at x2
                    have R8 := Lib.hid (R2.out.setBad true)
                    have J8 := Lib.hid (J2.out.trans (Just.set g 2 w2 (.bool true)))
                    go_wp2_with fail
                    go_ret
                    rw [hf2.out]
                    exact ⟨rfl, R8.out, J8.out⟩
                · have d6 : decide ((s[n].toNat : Int) < 49) = true := decide_eq_true (by omega)
                  have d6n : decide (s[n].toNat < 49) = true := decide_eq_true (by omega)
                  have d7 : decide ((53 : Int) < (s[n].toNat : Int)) = false := decide_eq_false (by omega)
                  have d7n : decide (53 < s[n].toNat) = false := decide_eq_false (by omega)
                  rw [if_pos (show isDig s[n] = false ∨ (j = 0 ∧ ¬ (49 ≤ s[n].toNat ∧ s[n].toNat ≤ 53)) from Or.inr ⟨hj0, fun e => h6 e.1⟩)] at hq2
                  have hf2 := Lib.hid (HB.out 0 hq2.symm)
                  clear hq2 hf HB
                  clear hj0
                  go_wp2_with fail
                  refine region_flat (l' := ?lflat) ?hflat ?_
                  case hflat => dsimp only [List.append]; try exact rfl
                  go_quiet (fail)
                  have R2 := Lib.hid (hR.out.next (below_drewN (Below.refl _ _) nq) hR.out.lt)
                  have J2 := Lib.hid (hJ.out.trans (Just.of (below_drewN (Below.refl _ _) nq) (Nat.le_refl _)))
                  obtain ⟨w2, hw2⟩ := name_it (wq.drewN nq)
                  rw [hw2.out] at R2 J2
                  rw [hw2.out]
                  clear hw2
                  clear x0 x1 x2 y1 y2
                  have x2 := R2.out.c2
                  have y2 := R2.out.f2
                  simp only [] at x2
                  have R8 := Lib.hid (R2.out.setBad true)
                  have J8 := Lib.hid (J2.out.trans (Just.set g 2 w2 (.bool true)))
                  go_wp2_with fail
                  go_ret
                  rw [hf2.out]
                  exact ⟨rfl, R8.out, J8.out⟩
              · have ej : ((j : Int) == 0) = false := by rw [beq_eq_false_iff_ne]; omega
                have ejn : (j == 0) = false := by rw [beq_eq_false_iff_ne]; exact hj0
                rw [if_neg (show ¬ (isDig s[n] = false ∨ (j = 0 ∧ ¬ (49 ≤ s[n].toNat ∧ s[n].toNat ≤ 53))) from fun e => by rcases e with e | e; rw [hd] at e; cases e; exact hj0 e.1)] at hq2
                have HQ := Lib.hid hq2
                clear hq2 HB
                go_wp2_with fail
                refine region_flat (l' := ?lflat) ?hflat ?_
                case hflat => dsimp only [List.append]; try exact rfl
                go_quiet (fail)
                have R2 := Lib.hid (hR.out.next (below_drewN (Below.refl _ _) nq) hR.out.lt)
                have J2 := Lib.hid (hJ.out.trans (Just.of (below_drewN (Below.refl _ _) nq) (Nat.le_refl _)))
                obtain ⟨w2, hw2⟩ := name_it (wq.drewN nq)
                rw [hw2.out] at R2 J2
                rw [hw2.out]
                clear hw2
                clear x0 x1 x2 y1 y2 d3 d3n d4 d4n e1 e1n dj djn
                try clear d6 d6n d7 d7n
                try clear ej ejn
                have ww1 : IntKind.u8.wrap ((s[n].toNat : Int) - 48) = (s[n].toNat : Int) - 48 := IntWalk.u8_in _ (by omega)
                have ww2 : IntKind.i64.wrap ((s[n].toNat : Int) - 48) = (s[n].toNat : Int) - 48 := IntWalk.i64_in _ (by omega)
                have ww3 : IntKind.i64.wrap (10 * x) = 10 * x := IntWalk.i64_in _ (by omega)
                have ww4 : IntKind.i64.wrap (10 * x + ((s[n].toNat : Int) - 48)) = 10 * x + ((s[n].toNat : Int) - 48) := IntWalk.i64_in _ (by omega)
                have x0 := R2.out.c0
                have x1 := R2.out.c1
                simp only [] at x1
                go_wp2_with fail
                go_quiet (fail)
                have R3 := Lib.hid (R2.out.next (below_drewN (Below.refl _ _) nq) R2.out.lt)
                have J3 := Lib.hid (J2.out.trans (Just.of (below_drewN (Below.refl _ _) nq) (Nat.le_refl _)))
                obtain ⟨w3, hw3⟩ := name_it (w2.drewN nq)
                rw [hw3.out] at R3 J3
                rw [hw3.out]
                clear hw3
                clear x0 x1 ww1 ww2 ww3 ww4 R2 J2
                have x1 := R3.out.c1
                have y1 := R3.out.f1
                simp only [] at x1
                obtain ⟨D, hD⟩ : ∃ D, (s[n].toNat : Int) - 48 = D := ⟨_, rfl⟩
                have hDg : dg s[n] = D := hD
                have hD0 : 0 ≤ D := by omega
                have hD9 : D ≤ 9 := by omega
                rw [hDg] at HQ
                rw [hD]
                clear hDg hD
                have R4 := Lib.hid (R3.out.setAt (n + 1))
                have J4 := Lib.hid (J3.out.trans (Just.set g 1 w3 (.int .i64 ((n + 1 : Nat) : Int))))
                have HX := HX0.out
                clear HX0
                go_wp2_with fail
                all_goals (try (exfalso; omega))
                go_roundw
                case rel =>
                  have hh := HN.out
                  refine ⟨j + 1, 10 * x + D, by omega, by omega, by go_num, by go_num, by omega, by omega, by omega, by omega, by omega, ?_, ?_, J4⟩
                  · rw [show n0 + (j + 1) = n + 1 by omega]; exact R4
                  · rw [show n0 + (j + 1) = n + 1 by omega]; exact HQ
                case measure => simp [intOf]; omega
            · have hd : isDig s[n] = false := decide_eq_false (fun e => h5 e.2)
              have d3 : decide ((s[n].toNat : Int) < 48) = false := decide_eq_false (by omega)
              have d3n : decide (s[n].toNat < 48) = false := decide_eq_false (by omega)
              have d4 : decide ((57 : Int) < (s[n].toNat : Int)) = true := decide_eq_true (by omega)
              have d4n : decide (57 < s[n].toNat) = true := decide_eq_true (by omega)
              rw [if_pos (show isDig s[n] = false ∨ (j = 0 ∧ ¬ (49 ≤ s[n].toNat ∧ s[n].toNat ≤ 53)) from Or.inl hd)] at hq2
              have hf2 := Lib.hid (HB.out 0 hq2.symm)
              clear hq2 hf HB
              go_wp2_with fail
              refine region_flat (l' := ?lflat) ?hflat ?_
              case hflat => dsimp only [List.append]; try exact rfl
              go_quiet (fail)
              have R2 := Lib.hid (hR.out.next (below_drewN (Below.refl _ _) nq) hR.out.lt)
              have J2 := Lib.hid (hJ.out.trans (Just.of (below_drewN (Below.refl _ _) nq) (Nat.le_refl _)))
              obtain ⟨w2, hw2⟩ := name_it (wq.drewN nq)
              rw [hw2.out] at R2 J2
              rw [hw2.out]
              clear hw2
              clear x0 x1 x2 y1 y2
              have x2 := R2.out.c2
              have y2 := R2.out.f2
              simp only [] at x2
              have R8 := Lib.hid (R2.out.setBad true)
              have J8 := Lib.hid (J2.out.trans (Just.set g 2 w2 (.bool true)))
              go_wp2_with fail
              go_ret
              rw [hf2.out]
              exact ⟨rfl, R8.out, J8.out⟩
          · have hd : isDig s[n] = false := decide_eq_false (fun e => h4 e.1)
            have d3 : decide ((s[n].toNat : Int) < 48) = true := decide_eq_true (by omega)
            have d3n : decide (s[n].toNat < 48) = true := decide_eq_true (by omega)
            rw [if_pos (show isDig s[n] = false ∨ (j = 0 ∧ ¬ (49 ≤ s[n].toNat ∧ s[n].toNat ≤ 53)) from Or.inl hd)] at hq2
            have hf2 := Lib.hid (HB.out 0 hq2.symm)
            clear hq2 hf HB
            go_wp2_with fail
            refine region_flat (l' := ?lflat) ?hflat ?_
            case hflat => dsimp only [List.append]; try exact rfl
            go_quiet (fail)
            have R2 := Lib.hid (hR.out.next (below_drewN (Below.refl _ _) nq) hR.out.lt)
            have J2 := Lib.hid (hJ.out.trans (Just.of (below_drewN (Below.refl _ _) nq) (Nat.le_refl _)))
            obtain ⟨w2, hw2⟩ := name_it (wq.drewN nq)
            rw [hw2.out] at R2 J2
            rw [hw2.out]
            clear hw2
            clear x0 x1 x2 y1 y2
            have x2 := R2.out.c2
            have y2 := R2.out.f2
            simp only [] at x2
            have R8 := Lib.hid (R2.out.setBad true)
            have J8 := Lib.hid (J2.out.trans (Just.set g 2 w2 (.bool true)))
            go_wp2_with fail
            go_ret
            rw [hf2.out]
            exact ⟨rfl, R8.out, J8.out⟩
        · have hns : n = s.size := by omega
          rw [List.drop_of_length_le (by rw [L_length]; omega), stK] at hq2
          have hf2 := Lib.hid (HB.out 0 hq2.symm)
          clear hq2 hf HB h1
          subst hns
          have e1 : ((s.size : Int) == (s.size : Int)) = true := beq_self_eq_true _
          go_wp2_with fail
          refine region_flat (l' := ?lflat) ?hflat ?_
          case hflat => dsimp only [List.append]; try exact rfl
          go_quiet (fail)
          have R2 := Lib.hid (hR.out.next (below_drewN (Below.refl _ _) nq) hR.out.lt)
          have J2 := Lib.hid (hJ.out.trans (Just.of (below_drewN (Below.refl _ _) nq) (Nat.le_refl _)))
          obtain ⟨w2, hw2⟩ := name_it (wq.drewN nq)
          rw [hw2.out] at R2 J2
          rw [hw2.out]
          clear hw2
          clear x0 x1 x2 y1 y2
          have x2 := R2.out.c2
          have y2 := R2.out.f2
          simp only [] at x2
          have R8 := Lib.hid (R2.out.setBad true)
          have J8 := Lib.hid (J2.out.trans (Just.set g 2 w2 (.bool true)))
          go_wp2_with fail
          go_ret
          rw [hf2.out]
          exact ⟨rfl, R8.out, J8.out⟩
      · obtain rfl : j = 3 := by omega
        have hf2 : Hid (F = (x, (n, false))) := by
          have h1 := hq.out
          rw [show 3 - 3 = 0 from rfl, stK] at h1
          have := hf.out
          rw [← h1] at this; simp only [] at this; rw [← HN.out] at this; exact this
        clear hq hf
        go_wp2_with fail
        go_ret
        rw [hf2.out]
        exact ⟨rfl, hR.out, hJ.out⟩
end Go.Proofs.YtfgaiopkclogmaaGreatDoor
