/- Contract of ledger's reader: a quoted target. Printed by gen_target.py. -/
import Derived.Test.YtfgaiopkclogmaaGreatDoorLedgTJ
import Derived.Test.YtfgaiopkclogmaaGreatDoorLedgDJ
namespace Go.Proofs.YtfgaiopkclogmaaGreatDoor
open Go Go.RowKit
set_option maxHeartbeats 4000000

theorem Byt.just {w w' : World} {g b : Nat} {v : Value} {l : List UInt8} (h : Byt w b v l) (hj : Just g w w') (hg : g < b) : Byt w' b v l := by
  refine World.ownsRow.kept h hj ?_
  cases hv : v.ownBlock with
  | none => exact Or.inl rfl
  | some k =>
    refine Or.inr (fun e => ?_)
    injection e with e
    have := (World.ownsRow.lt h k hv).1
    omega
theorem Just.low {g : Nat} {w wr w' : World} (h : Just g w wr) (hb : Below w.heap.size wr w') : Just g w w' :=
  ⟨hb.os.trans h.os, hb.tape.trans h.tape, hb.output.trans h.output, Nat.le_trans h.size hb.size, fun i hi hne => (hb.block i hi).trans (h.block i hi hne)⟩
theorem Rdr.low {w w' : World} {g B : Nat} {s : ByteArray} {st : St} (h : Rdr w g s st) (hb : Below B w w') (hB : g < B) : Rdr w' g s st := h.next hb hB

set_option maxRecDepth 100000 in
theorem target_any (g : Nat) (s : ByteArray) (st : St) (w : World) (hr : Rdr w g s st) (hn : st.1 ≤ s.size) (hs : s.size ≤ 1073741824) :
    Calls Tryz.prog 69 #[.pointer (some ⟨g, 0, none⟩)] w fun e w' => e = .returned (.string (bs (tgtS (L s) st).1)) ∧ Rdr w' g s (tgtS (L s) st).2 ∧ Just g w w' := by
  obtain ⟨i0, hi, hz0, hz1, hz2⟩ := info_parts infoByteL
  have HG := Lib.hid hr.lt
  have HLIT : Hid (∀ (wx : World) (st' : St), Rdr wx g s st' → st'.1 ≤ s.size → Calls Tryz.prog 67 #[.pointer (some ⟨g, 0, none⟩), .string { data := #[34] }] wx fun e w' => e = .returned (.tuple #[]) ∧ Rdr w' g s (litS (L s) [34] st') ∧ Just g wx w') :=
    fun wx st' h1 h2 => lit_any g s ⟨#[34]⟩ st' wx h1 h2 hs (by decide)
  obtain ⟨F, hF⟩ := name_it (tgtS (L s) st)
  rw [hF.out]
  obtain ⟨A, hA⟩ := name_it (litS (L s) [34] st)
  have hle := (litS_le (L s) [34] st (by rw [L_length]; exact hn)).2
  rw [hA.out, L_length] at hle
  have hF2 : F = (if A.2 = true then ([], A) else ((tgtK ((L s).drop A.1) [] 0).1, litS (L s) [34] (A.1 + (tgtK ((L s).drop A.1) [] 0).2.1, (tgtK ((L s).drop A.1) [] 0).2.2 || decide ((tgtK ((L s).drop A.1) [] 0).1 = [])))) := by
    rw [← hF.out]; unfold tgtS; rw [hA.out]
  have HF := Lib.hid hF2
  have HR := Lib.hid hr
  have HN := Lib.hid hn
  clear hr hn hF hF2
  go_enter Tryz.func69, Tryz.ntmps69
  go_wp2_with fail
  refine (HLIT.out _ _ HR.out HN.out).mono ?_
  rintro e wl ⟨rfl, RL, JL⟩
  rw [hA.out] at RL
  have RL := Lib.hid RL
  have JL := Lib.hid JL
  clear hA HR HN
  obtain ⟨n1, b1⟩ := A
  simp only [] at hle
  cases b1 with
  | true =>
    have hf : Hid (F = ([], litS (L s) [34] (n1, true))) := by rw [litS_bad]; exact HF.out.trans (if_pos rfl)
    clear HF
    go_wp2_with fail
    go_loopw [3, 4] (fun v _ wr => v = .slice none 0 0 ∧ wr = wl) (fun _ _ _ => 0)
    case atStart => exact ⟨rfl, rfl⟩
    case round =>
      obtain ⟨rfl, hwr⟩ := hrel
      obtain ⟨wq, hwq⟩ : ∃ wq, wq = wr := ⟨wr, rfl⟩
      subst hwq
      subst hwr
      have Y0 := Lib.hid (Byt.nil wq w.heap.size)
      have x2 := RL.out.c2
      simp only [] at x2
      go_wp2_with fail
      go_quiet (fail)
      have R2 := Lib.hid (RL.out.next (below_drewN (Below.refl _ _) nq) RL.out.lt)
      have J2 := Lib.hid (JL.out.trans (Just.of (below_drewN (Below.refl _ _) nq) (Nat.le_refl _)))
      have Y2 := Lib.hid (Y0.out.just (Just.of (below_drewN (Below.refl _ _) nq) (Nat.le_refl _)) HG.out)
      obtain ⟨w2, hw2⟩ := name_it (wq.drewN nq)
      rw [hw2.out] at R2 J2 Y2
      rw [hw2.out]
      clear hw2
      clear x2
      have x2 := R2.out.c2
      have y2 := R2.out.f2
      simp only [] at x2
      have R8 := Lib.hid (R2.out.setBad true)
      have J8 := Lib.hid (J2.out.trans (Just.set g 2 w2 (.bool true)))
      have Y8 := Lib.hid (Y2.out.just (Just.set g 2 w2 (.bool true)) HG.out)
      go_wp2_with fail
      all_goals (try (exfalso; omega))
      refine (HLIT.out _ _ R8.out hle).mono ?_
      rintro e w9 ⟨rfl, R9, J9⟩
      have Y9 := Y8.out.just J9 HG.out
      have J99 := Lib.hid (J8.out.trans J9)
      have R99 := Lib.hid R9
      have hconv := own_string (P := Tryz.prog) 59 9 5 Y9 Tryz.underlying59 Tryz.underlying5 Tryz.underlying9
      clear J9 R9 Y8 J8 R8
      go_wp2_with fail
      go_ret
      rw [hf.out]
      exact ⟨rfl, R99.out, J99.out⟩
  | false =>
    obtain ⟨Q, hQ⟩ := name_it (tgtK ((L s).drop n1) [] 0)
    have hf0 : Hid (F = (Q.1, litS (L s) [34] (n1 + Q.2.1, Q.2.2 || decide (Q.1 = [])))) := by
      have h := HF.out.trans (if_neg nf)
      rw [hQ.out] at h; exact h
    have HFIN : Hid (∀ acc j b, tgtK ((L s).drop (n1 + j)) acc j = Q → tgtK ((L s).drop (n1 + j)) acc j = (acc, j, b) → F = (acc, litS (L s) [34] (n1 + j, b || decide (acc = [])))) := by
      intro acc j b h1 h2
      rw [hf0.out, ← h1, h2]
    have HBAD : Hid (∀ acc j k, tgtK ((L s).drop (n1 + j)) acc j = Q → tgtK ((L s).drop (n1 + j)) acc j = (acc, k, true) → F = (acc, litS (L s) [34] (n1 + k, true))) := by
      intro acc j k h1 h2
      rw [hf0.out, ← h1, h2]; rfl
    clear HF hf0
    go_wp2_with fail
    go_loopw [3, 4] (fun v _ wr => ∃ (j : Nat) (acc : List UInt8), n1 + j ≤ s.size ∧ acc.length ≤ 65536 ∧ Hid (Byt wr w.heap.size v acc) ∧ Hid (Rdr wr g s (n1 + j, false)) ∧ Hid (tgtK ((L s).drop (n1 + j)) acc j = Q) ∧ Hid (Just g w wr)) (fun _ _ wr => s.size + 1 - rdAt wr g)
    case atStart => exact ⟨0, [], hle, by simp, Byt.nil _ _, RL, hQ, JL⟩
    clear RL JL hQ hle
    case round =>
      obtain ⟨j, acc, hnj, hacc, hY, hR, hr, hJ⟩ := hrel
      obtain ⟨wq, hwq⟩ : ∃ wq, wq = wr := ⟨wr, rfl⟩
      subst hwq
      obtain ⟨p, hp⟩ : ∃ p, p = n1 + j := ⟨_, rfl⟩
      have HEND := Lib.hid (fun b => HFIN.out acc j b hr.out)
      have HWR := Lib.hid (fun k => HBAD.out acc j k hr.out)
      rw [← hp] at hnj hR hr HEND HWR
      have HP := Lib.hid hp
      clear hp
      obtain ⟨sp, cap, rfl⟩ := hY.out.slice
      have HM := Lib.hid hR.out.rdAt
      have x0 := hR.out.c0
      have x1 := hR.out.c1
      have x2 := hR.out.c2
      simp only [] at x1 x2
      by_cases hlt : p < s.size
      · have d1 : decide ((p : Int) < (s.size : Int)) = true := decide_eq_true (by omega)
        have d1n : decide (p < s.size) = true := decide_eq_true hlt
        have q0 : (0 : Int) ≤ (p : Int) := by omega
        have q1 : (p : Int) < (s.size : Int) := by omega
        have hdr := Lib.hid (L_drop hlt)
        by_cases hq : (s[p].toNat : Int) = 34
        · have hc34 := u8_of (k := 34) (by omega) hq
          have hf : Hid (F = (acc, litS (L s) [34] (p, decide (acc = [])))) := HEND.out false (by rw [hdr.out, tgtK_quote _ _ _ hc34])
          have e1 : ((s[p].toNat : Int) != 34) = false := by rw [hq]; rfl
          have e1n : (s[p].toNat != 34) = false := by rw [hc34]; rfl
          clear hq hc34
          obtain ⟨bb, hbb⟩ := name_it (decide (acc = []))
          rw [hbb.out] at hf
          have hab : ((acc.length : Int) == 0) = bb := by
            rw [← hbb.out, Bool.eq_iff_iff, beq_iff_eq, decide_eq_true_eq, ← List.length_eq_zero_iff]
            omega
          have habn : (acc.length == 0) = bb := by
            rw [← hbb.out, Bool.eq_iff_iff, beq_iff_eq, decide_eq_true_eq, ← List.length_eq_zero_iff]
          clear hbb hr HEND HWR HFIN HBAD
          go_wp2_with fail
          go_quiet (fail)
          have R2 := Lib.hid (hR.out.next (below_drewN (Below.refl _ _) nq) hR.out.lt)
          have J2 := Lib.hid (hJ.out.trans (Just.of (below_drewN (Below.refl _ _) nq) (Nat.le_refl _)))
          have Y2 := Lib.hid (hY.out.just (Just.of (below_drewN (Below.refl _ _) nq) (Nat.le_refl _)) HG.out)
          obtain ⟨w2, hw2⟩ := name_it (wq.drewN nq)
          rw [hw2.out] at R2 J2 Y2
          rw [hw2.out]
          clear hw2
          clear x0 x1 x2
          have x2 := R2.out.c2
          have y2 := R2.out.f2
          simp only [] at x2
          have R8 := Lib.hid (R2.out.setBad bb)
          have J8 := Lib.hid (J2.out.trans (Just.set g 2 w2 (.bool bb)))
          have Y8 := Lib.hid (Y2.out.just (Just.set g 2 w2 (.bool bb)) HG.out)
          go_wp2_with fail
          all_goals (try (exfalso; omega))
          refine (HLIT.out _ _ R8.out hnj).mono ?_
          rintro e w9 ⟨rfl, R9, J9⟩
          have Y9 := Y8.out.just J9 HG.out
          have J99 := Lib.hid (J8.out.trans J9)
          have R99 := Lib.hid R9
          have hconv := own_string (P := Tryz.prog) 59 9 5 Y9 Tryz.underlying59 Tryz.underlying5 Tryz.underlying9
          clear J9 R9 Y8 J8 R8
          go_wp2_with fail
          go_ret
          rw [hf.out]
          exact ⟨rfl, R99.out, J99.out⟩
        · have hc34 : s[p] ≠ 34 := fun e => hq (by rw [e]; rfl)
          have e1 : ((s[p].toNat : Int) != 34) = true := by rw [bne_iff_ne]; exact hq
          have e1n : (s[p].toNat != 34) = true := by rw [bne_iff_ne]; omega
          have HT := Lib.hid (fun wx => istarget_any s[p] wx)
          have HC34 := Lib.hid hc34
          clear hq hc34
          go_wp2_with fail
          go_quiet (fail)
          have R2 := Lib.hid (hR.out.next (below_drewN (Below.refl _ _) nq) hR.out.lt)
          have J2 := Lib.hid (hJ.out.trans (Just.of (below_drewN (Below.refl _ _) nq) (Nat.le_refl _)))
          have Y2 := Lib.hid (hY.out.just (Just.of (below_drewN (Below.refl _ _) nq) (Nat.le_refl _)) HG.out)
          obtain ⟨w2, hw2⟩ := name_it (wq.drewN nq)
          rw [hw2.out] at R2 J2 Y2
          rw [hw2.out]
          clear hw2
          clear x0 x1 x2 d1 d1n e1 e1n hR hJ hY
          have x0 := R2.out.c0
          have x1 := R2.out.c1
          simp only [] at x1
          go_wp2_with fail
          go_quiet (fail)
          have R3 := Lib.hid (R2.out.next (below_drewN (Below.refl _ _) nq) R2.out.lt)
          have J3 := Lib.hid (J2.out.trans (Just.of (below_drewN (Below.refl _ _) nq) (Nat.le_refl _)))
          have Y3 := Lib.hid (Y2.out.just (Just.of (below_drewN (Below.refl _ _) nq) (Nat.le_refl _)) HG.out)
          obtain ⟨w3, hw3⟩ := name_it (w2.drewN nq)
          rw [hw3.out] at R3 J3 Y3
          rw [hw3.out]
          clear hw3
          clear x0 x1 R2 J2 Y2
          obtain ⟨c, hc⟩ := name_it s[p]
          rw [hc.out] at hdr HC34 HT
          rw [hc.out]
          go_wp2_with fail
          refine (HT.out _).mono ?_
          rintro e wx ⟨rfl, rfl⟩
          have x1 := R3.out.c1
          have x2 := R3.out.c2
          have y1 := R3.out.f1
          have y2 := R3.out.f2
          simp only [] at x1 x2
          by_cases hbad : tgtB c = false ∨ acc.length = 65536
          · have hf : Hid (F = (acc, litS (L s) [34] (p, true))) := by
              have h := HWR.out j (by rw [hdr.out, tgtK_bad _ _ _ HC34.out hbad])
              rw [← HP.out] at h; exact h
            obtain ⟨tb, htb⟩ : ∃ tb, tgtB c = tb := ⟨_, rfl⟩
            rw [htb] at hbad ⊢
            clear HT hr HEND HWR HFIN HBAD htb
            have R4 := Lib.hid (R3.out.setBad true)
            have J4 := Lib.hid (J3.out.trans (Just.set g 2 w3 (.bool true)))
            have Y4 := Lib.hid (Y3.out.just (Just.set g 2 w3 (.bool true)) HG.out)
            have z2 := R4.out.c2
            have u2 := R4.out.f2
            simp only [] at z2
            have R8 := Lib.hid (R4.out.setBad true)
            have J8 := Lib.hid (J4.out.trans (Just.set g 2 (w3.setCell ⟨g, 2, none⟩ (.bool true)) (.bool true)))
            have Y8 := Lib.hid (Y4.out.just (Just.set g 2 (w3.setCell ⟨g, 2, none⟩ (.bool true)) (.bool true)) HG.out)
            rcases hbad with rfl | hbad
            · go_wp2_with fail
              all_goals (try (exfalso; omega))
              refine (HLIT.out _ _ R8.out hnj).mono ?_
              rintro e w9 ⟨rfl, R9, J9⟩
              have Y9 := Y8.out.just J9 HG.out
              have J99 := Lib.hid (J8.out.trans J9)
              have R99 := Lib.hid R9
              have hconv := own_string (P := Tryz.prog) 59 9 5 Y9 Tryz.underlying59 Tryz.underlying5 Tryz.underlying9
              clear J9 R9 Y8 J8 R8
              go_wp2_with fail
              go_ret
              rw [hf.out]
              exact ⟨rfl, R99.out, J99.out⟩
            · cases tb with
              | false =>
                clear hbad
                go_wp2_with fail
                all_goals (try (exfalso; omega))
                refine (HLIT.out _ _ R8.out hnj).mono ?_
                rintro e w9 ⟨rfl, R9, J9⟩
                have Y9 := Y8.out.just J9 HG.out
                have J99 := Lib.hid (J8.out.trans J9)
                have R99 := Lib.hid R9
                have hconv := own_string (P := Tryz.prog) 59 9 5 Y9 Tryz.underlying59 Tryz.underlying5 Tryz.underlying9
                clear J9 R9 Y8 J8 R8
                go_wp2_with fail
                go_ret
                rw [hf.out]
                exact ⟨rfl, R99.out, J99.out⟩
              | true =>
                have hab : ((acc.length : Int) == 65536) = true := by rw [hbad]; rfl
                have HB := Lib.hid hbad
                clear hbad
                go_wp2_with fail
                all_goals (try (exfalso; omega))
                refine (HLIT.out _ _ R8.out hnj).mono ?_
                rintro e w9 ⟨rfl, R9, J9⟩
                have Y9 := Y8.out.just J9 HG.out
                have J99 := Lib.hid (J8.out.trans J9)
                have R99 := Lib.hid R9
                have hconv := own_string (P := Tryz.prog) 59 9 5 Y9 Tryz.underlying59 Tryz.underlying5 Tryz.underlying9
                clear J9 R9 Y8 J8 R8
                go_wp2_with fail
                go_ret
                rw [hf.out]
                exact ⟨rfl, R99.out, J99.out⟩
          · have htb : tgtB c = true := by
              cases hh : tgtB c with
              | true => rfl
              | false => exact absurd (Or.inl hh) hbad
            have hal : acc.length < 65536 := by
              have : acc.length ≠ 65536 := fun e => hbad (Or.inr e)
              omega
            have hab : ((acc.length : Int) == 65536) = false := by rw [beq_eq_false_iff_ne]; omega
            rw [htb]
            obtain ⟨m, hm⟩ : ∃ m, m = p + 1 := ⟨_, rfl⟩
            have R4 := Lib.hid (R3.out.setAt (p + 1))
            have J4 := Lib.hid (J3.out.trans (Just.set g 1 w3 (.int .i64 ((p + 1 : Nat) : Int))))
            have Y4 := Lib.hid (Y3.out.just (Just.set g 1 w3 (.int .i64 ((p + 1 : Nat) : Int))) HG.out)
            obtain ⟨w4, hw4⟩ : ∃ w4, Hid (w3.setCell ⟨g, 1, none⟩ (.int .i64 ((p : Int) + 1)) = w4) := ⟨_, rfl⟩
            have hw4b : Hid (w3.setCell ⟨g, 1, none⟩ (.int .i64 ((p + 1 : Nat) : Int)) = w4) := hw4
            rw [hw4b.out] at R4 J4 Y4
            clear hbad HT hw4b
            by_cases hbk : (c.toNat : Int) = 92
            · have hc92 := u8_of (k := 92) (by omega) hbk
              have hbkb : ((c.toNat : Int) == 92) = true := by rw [hbk]; rfl
              have HBK := Lib.hid hbk
              clear hbk
              go_wp2_with fail
              all_goals (try (exfalso; omega))
              rw [hw4.out]
              clear x1 x2 y1 y2 hbkb hab
              rw [← hm] at R4
              have hmn : m ≤ s.size := by omega
              have HMM := Lib.hid hm
              clear hm
              have x0 := R4.out.c0
              have x1 := R4.out.c1
              have x2 := R4.out.c2
              have y1 := R4.out.f1
              have y2 := R4.out.f2
              simp only [] at x1 x2
              by_cases hend : m = s.size
              · have hf : Hid (F = (acc, litS (L s) [34] (m, true))) := by
                  have h := HWR.out (j + 1) (by rw [hdr.out, List.drop_of_length_le (by have := HMM.out; rw [L_length]; omega), tgtK_back0 _ _ htb hal hc92])
                  rw [← Nat.add_assoc, ← HP.out, ← HMM.out] at h; exact h
                have e1 : ((m : Int) == (s.size : Int)) = true := by rw [beq_iff_eq]; omega
                have e1n : (m == s.size) = true := by rw [beq_iff_eq]; exact hend
                subst hend
                clear hr HEND HWR HFIN HBAD hc92 e1n e1
                have e1 : ((s.size : Int) == (s.size : Int)) = true := beq_self_eq_true _
                go_quiet (fail)
                have R5 := Lib.hid (R4.out.next (below_drewN (Below.refl _ _) nq) R4.out.lt)
                have J5 := Lib.hid (J4.out.trans (Just.of (below_drewN (Below.refl _ _) nq) (Nat.le_refl _)))
                have Y5 := Lib.hid (Y4.out.just (Just.of (below_drewN (Below.refl _ _) nq) (Nat.le_refl _)) HG.out)
                obtain ⟨w5, hw5⟩ := name_it (w4.drewN nq)
                rw [hw5.out] at R5 J5 Y5
                rw [hw5.out]
                clear hw5
                clear x0 x1 x2 y1 y2
                have x2 := R5.out.c2
                have y2 := R5.out.f2
                simp only [] at x2
                have R6 := Lib.hid (R5.out.setBad true)
                have J6 := Lib.hid (J5.out.trans (Just.set g 2 w5 (.bool true)))
                have Y6 := Lib.hid (Y5.out.just (Just.set g 2 w5 (.bool true)) HG.out)
                have z2 := R6.out.c2
                have u2 := R6.out.f2
                simp only [] at z2
                have R8 := Lib.hid (R6.out.setBad true)
                have J8 := Lib.hid (J6.out.trans (Just.set g 2 (w5.setCell ⟨g, 2, none⟩ (.bool true)) (.bool true)))
                have Y8 := Lib.hid (Y6.out.just (Just.set g 2 (w5.setCell ⟨g, 2, none⟩ (.bool true)) (.bool true)) HG.out)
                go_wp2_with fail
                all_goals (try (exfalso; omega))
                refine (HLIT.out _ _ R8.out hmn).mono ?_
                rintro e w9 ⟨rfl, R9, J9⟩
                have Y9 := Y8.out.just J9 HG.out
                have J99 := Lib.hid (J8.out.trans J9)
                have R99 := Lib.hid R9
                have hconv := own_string (P := Tryz.prog) 59 9 5 Y9 Tryz.underlying59 Tryz.underlying5 Tryz.underlying9
                clear J9 R9 Y8 J8 R8
                go_wp2_with fail
                go_ret
                rw [hf.out]
                exact ⟨rfl, R99.out, J99.out⟩
              · have hmlt : m < s.size := by omega
                have e1 : ((m : Int) == (s.size : Int)) = false := by rw [beq_eq_false_iff_ne]; omega
                have e1n : (m == s.size) = false := by rw [beq_eq_false_iff_ne]; exact hend
                have r0 : (0 : Int) ≤ (m : Int) := by omega
                have r1 : (m : Int) < (s.size : Int) := by omega
                have hdr2 : Hid ((L s).drop (p + 1) = s[m] :: (L s).drop (m + 1)) := by rw [← HMM.out]; exact L_drop hmlt
                by_cases hdd : s[m] ≠ 34 ∧ s[m] ≠ 92
                · have hf : Hid (F = (acc, litS (L s) [34] (m, true))) := by
                    have h := HWR.out (j + 1) (by rw [hdr.out, hdr2.out, tgtK_back1 _ _ _ htb hal hc92 hdd])
                    rw [← Nat.add_assoc, ← HP.out, ← HMM.out] at h; exact h
                  have g1 : ((s[m].toNat : Int) != 34) = true := by rw [bne_iff_ne]; intro e; exact hdd.1 (u8_of (k := 34) (by omega) e)
                  have g2 : ((s[m].toNat : Int) != 92) = true := by rw [bne_iff_ne]; intro e; exact hdd.2 (u8_of (k := 92) (by omega) e)
                  clear hend hr HEND HWR HFIN HBAD hc92 hdd
                  go_quiet (fail)
                  have R5 := Lib.hid (R4.out.next (below_drewN (Below.refl _ _) nq) R4.out.lt)
                  have J5 := Lib.hid (J4.out.trans (Just.of (below_drewN (Below.refl _ _) nq) (Nat.le_refl _)))
                  have Y5 := Lib.hid (Y4.out.just (Just.of (below_drewN (Below.refl _ _) nq) (Nat.le_refl _)) HG.out)
                  obtain ⟨w5, hw5⟩ := name_it (w4.drewN nq)
                  rw [hw5.out] at R5 J5 Y5
                  rw [hw5.out]
                  clear hw5
                  clear x0 x1 x2 y1 y2
                  have x2 := R5.out.c2
                  have y2 := R5.out.f2
                  simp only [] at x2
                  have R6 := Lib.hid (R5.out.setBad true)
                  have J6 := Lib.hid (J5.out.trans (Just.set g 2 w5 (.bool true)))
                  have Y6 := Lib.hid (Y5.out.just (Just.set g 2 w5 (.bool true)) HG.out)
                  have z2 := R6.out.c2
                  have u2 := R6.out.f2
                  simp only [] at z2
                  have R8 := Lib.hid (R6.out.setBad true)
                  have J8 := Lib.hid (J6.out.trans (Just.set g 2 (w5.setCell ⟨g, 2, none⟩ (.bool true)) (.bool true)))
                  have Y8 := Lib.hid (Y6.out.just (Just.set g 2 (w5.setCell ⟨g, 2, none⟩ (.bool true)) (.bool true)) HG.out)
                  go_wp2_with fail
                  all_goals (try (exfalso; omega))
                  refine (HLIT.out _ _ R8.out hmn).mono ?_
                  rintro e w9 ⟨rfl, R9, J9⟩
                  have Y9 := Y8.out.just J9 HG.out
                  have J99 := Lib.hid (J8.out.trans J9)
                  have R99 := Lib.hid R9
                  have hconv := own_string (P := Tryz.prog) 59 9 5 Y9 Tryz.underlying59 Tryz.underlying5 Tryz.underlying9
                  clear J9 R9 Y8 J8 R8
                  go_wp2_with fail
                  go_ret
                  rw [hf.out]
                  exact ⟨rfl, R99.out, J99.out⟩
                · have hdd2 : s[m] = 34 ∨ s[m] = 92 := by
                    by_cases e : s[m] = 34
                    · exact Or.inl e
                    · by_cases e2 : s[m] = 92
                      · exact Or.inr e2
                      · exact absurd ⟨e, e2⟩ hdd
                  have HQ : Hid (tgtK ((L s).drop (m + 1)) (acc ++ [s[m]]) (j + 2) = Q) := by
                    have h := hr.out
                    rw [hdr.out, hdr2.out, tgtK_back2 _ _ _ htb hal hc92 hdd2] at h; exact h
                  have hgg : (((s[m].toNat : Int) != 34) = false) ∨ (((s[m].toNat : Int) != 34) = true ∧ ((s[m].toNat : Int) != 92) = false) := by
                    rcases hdd2 with e | e
                    · exact Or.inl (by rw [e]; rfl)
                    · exact Or.inr ⟨by rw [e]; rfl, by rw [e]; rfl⟩
                  clear hend hr HEND HWR HFIN HBAD hc92 hdd hdd2 hdr hdr2
                  rcases hgg with g1 | ⟨g1, g2⟩
                  all_goals
                    go_quiet (fail)
                    have R5 := Lib.hid (R4.out.next (below_drewN (Below.refl _ _) nq) R4.out.lt)
                    have J5 := Lib.hid (J4.out.trans (Just.of (below_drewN (Below.refl _ _) nq) (Nat.le_refl _)))
                    have Y5 := Lib.hid (Y4.out.just (Just.of (below_drewN (Below.refl _ _) nq) (Nat.le_refl _)) HG.out)
                    obtain ⟨w5, hw5⟩ := name_it (w4.drewN nq)
                    rw [hw5.out] at R5 J5 Y5
                    rw [hw5.out]
                    clear hw5
                    clear x0 x1 x2 y1 y2
                    have x0 := R5.out.c0
                    have x1 := R5.out.c1
                    simp only [] at x1
                    go_wp2_with fail
                    go_quiet (fail)
                    have R6 := Lib.hid (R5.out.next (below_drewN (Below.refl _ _) nq) R5.out.lt)
                    have J6 := Lib.hid (J5.out.trans (Just.of (below_drewN (Below.refl _ _) nq) (Nat.le_refl _)))
                    have Y6 := Lib.hid (Y5.out.just (Just.of (below_drewN (Below.refl _ _) nq) (Nat.le_refl _)) HG.out)
                    obtain ⟨w6, hw6⟩ := name_it (w5.drewN nq)
                    rw [hw6.out] at R6 J6 Y6
                    rw [hw6.out]
                    clear hw6
                    clear x0 x1
                    have x1 := R6.out.c1
                    have y1 := R6.out.f1
                    simp only [] at x1
                    have R7 := Lib.hid (R6.out.setAt (m + 1))
                    have J7 := Lib.hid (J6.out.trans (Just.set g 1 w6 (.int .i64 ((m + 1 : Nat) : Int))))
                    have Y7 := Lib.hid (Y6.out.just (Just.set g 1 w6 (.int .i64 ((m + 1 : Nat) : Int))) HG.out)
                    go_wp2_with (at_builtin; refine append1 rfl _ _ 59 rfl w.heap.size 5 i0 (.int .u8 0) 1 Tryz.underlying59 hi hz0 hz1 hz2 rfl Y7.out rfl (.int .u8 (s[m].toNat : Int)) rfl ?hx ?_ ?_ ?_ ?_; (case hx => simp [Act.eval]; done))
                    all_goals (try (exfalso; omega))
                    · unfold maxLen; omega
                    · omega
                    · exact J7.out.size
                    intro ag acap wz hag hown2 hbz
                    have Yz := Lib.hid (Byt.snoc (c := s[m]) rfl hown2)
                    have Rz := Lib.hid (R7.out.low hbz HG.out)
                    have Jz := Lib.hid (J7.out.low hbz)
                    clear hown2 hbz
                    go_wp2_with fail
                    go_roundw
                    case rel =>
                      have := HP.out
                      try have hmm := HMM.out
                      refine ⟨j + 2, acc ++ [s[m]], by omega, by simp; omega, Yz, ?_, ?_, Jz⟩
                      · rw [show n1 + (j + 2) = m + 1 by omega]; exact Rz
                      · rw [show n1 + (j + 2) = m + 1 by omega]; exact HQ
                    case measure =>
                      try have hmm := HMM.out
                      have e1 := HM.out
                      have e2 := Rz.out.rdAt
                      simp only [] at e1 e2
                      rw [e1, e2]; omega
            · have hc92 : c ≠ 92 := fun e => hbk (by rw [e]; rfl)
              have hbkb : ((c.toNat : Int) == 92) = false := by simp [hbk]
              have HQ : Hid (tgtK ((L s).drop (p + 1)) (acc ++ [c]) (j + 1) = Q) := by
                have h := hr.out
                rw [hdr.out, tgtK_else _ _ _ HC34.out htb hal hc92] at h; exact h
              rw [← hw4.out] at R4 J4 Y4
              clear hr HEND HWR HFIN HBAD hc92 hdr hw4
              go_wp2_with (at_builtin; refine append1 rfl _ _ 59 rfl w.heap.size 5 i0 (.int .u8 0) 1 Tryz.underlying59 hi hz0 hz1 hz2 rfl Y4.out rfl (.int .u8 (c.toNat : Int)) rfl ?hx ?_ ?_ ?_ ?_; (case hx => simp [Act.eval]; done))
              all_goals (try (exfalso; omega))
              · unfold maxLen; omega
              · omega
              · exact J4.out.size
              intro ag acap wz hag hown2 hbz
              have Yz := Lib.hid (Byt.snoc (c := c) rfl hown2)
              have Rz := Lib.hid (R4.out.low hbz HG.out)
              have Jz := Lib.hid (J4.out.low hbz)
              clear hown2 hbz
              go_wp2_with fail
              go_roundw
              case rel =>
                have := HP.out
                try have hmm := HMM.out
                refine ⟨j + 1, acc ++ [c], by omega, by simp; omega, Yz, ?_, ?_, Jz⟩
                · rw [show n1 + (j + 1) = p + 1 by omega]; exact Rz
                · rw [show n1 + (j + 1) = p + 1 by omega]; exact HQ
              case measure =>
                try have hmm := HMM.out
                have e1 := HM.out
                have e2 := Rz.out.rdAt
                simp only [] at e1 e2
                rw [e1, e2]; omega
      · have hf : Hid (F = (acc, litS (L s) [34] (p, decide (acc = [])))) := HEND.out false (by rw [List.drop_of_length_le (by rw [L_length]; omega), tgtK_nil])
        have d1 : decide ((p : Int) < (s.size : Int)) = false := decide_eq_false (by omega)
        have d1n : decide (p < s.size) = false := decide_eq_false hlt
        obtain ⟨bb, hbb⟩ := name_it (decide (acc = []))
        rw [hbb.out] at hf
        have hab : ((acc.length : Int) == 0) = bb := by
          rw [← hbb.out, Bool.eq_iff_iff, beq_iff_eq, decide_eq_true_eq, ← List.length_eq_zero_iff]
          omega
        have habn : (acc.length == 0) = bb := by
          rw [← hbb.out, Bool.eq_iff_iff, beq_iff_eq, decide_eq_true_eq, ← List.length_eq_zero_iff]
        clear hbb hr HEND HWR HFIN HBAD
        go_wp2_with fail
        go_quiet (fail)
        have R2 := Lib.hid (hR.out.next (below_drewN (Below.refl _ _) nq) hR.out.lt)
        have J2 := Lib.hid (hJ.out.trans (Just.of (below_drewN (Below.refl _ _) nq) (Nat.le_refl _)))
        have Y2 := Lib.hid (hY.out.just (Just.of (below_drewN (Below.refl _ _) nq) (Nat.le_refl _)) HG.out)
        obtain ⟨w2, hw2⟩ := name_it (wq.drewN nq)
        rw [hw2.out] at R2 J2 Y2
        rw [hw2.out]
        clear hw2
        clear x0 x1 x2
        have x2 := R2.out.c2
        have y2 := R2.out.f2
        simp only [] at x2
        have R8 := Lib.hid (R2.out.setBad bb)
        have J8 := Lib.hid (J2.out.trans (Just.set g 2 w2 (.bool bb)))
        have Y8 := Lib.hid (Y2.out.just (Just.set g 2 w2 (.bool bb)) HG.out)
        go_wp2_with fail
        all_goals (try (exfalso; omega))
        refine (HLIT.out _ _ R8.out hnj).mono ?_
        rintro e w9 ⟨rfl, R9, J9⟩
        have Y9 := Y8.out.just J9 HG.out
        have J99 := Lib.hid (J8.out.trans J9)
        have R99 := Lib.hid R9
        have hconv := own_string (P := Tryz.prog) 59 9 5 Y9 Tryz.underlying59 Tryz.underlying5 Tryz.underlying9
        clear J9 R9 Y8 J8 R8
        go_wp2_with fail
        go_ret
        rw [hf.out]
        exact ⟨rfl, R99.out, J99.out⟩
end Go.Proofs.YtfgaiopkclogmaaGreatDoor
