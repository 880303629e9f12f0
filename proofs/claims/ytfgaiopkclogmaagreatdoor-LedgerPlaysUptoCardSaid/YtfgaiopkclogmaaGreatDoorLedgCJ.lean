/- Contracts of ledger's reader: a row of bytes of a name. -/
import Derived.Test.YtfgaiopkclogmaaGreatDoorMc
import Derived.Deep.RegionHeld3
namespace Go.Proofs.YtfgaiopkclogmaaGreatDoor
open Go Go.RowKit
set_option maxHeartbeats 4000000

def rdAt (w : World) (g : Nat) : Nat := match w.cell? ⟨g, 1, none⟩ with | some v => (intOf v).toNat | none => 0
theorem Rdr.rdAt {w : World} {g : Nat} {s : ByteArray} {st : St} (h : Rdr w g s st) : rdAt w g = st.1 := by
  unfold Proofs.YtfgaiopkclogmaaGreatDoor.rdAt; rw [h.c1]; show ((st.1 : Int)).toNat = st.1; omega
theorem runK_end (may : UInt8 → Bool) (m : Nat) {l : List UInt8} (h : l = []) : runK may m l = 0 := by
  subst h; cases m <;> rfl

set_option maxRecDepth 100000 in
theorem runname_any (g : Nat) (s : ByteArray) (st : St) (w : World) (hr : Rdr w g s st) (hn : st.1 ≤ s.size) (hs : s.size ≤ 1073741824) :
    Calls Tryz.prog 66 #[.pointer (some ⟨g, 0, none⟩), .int .i64 64, .func (.func 54) #[] #[]] w fun e w' => e = .returned (.string (s.extract st.1 (runS (L s) nameB 64 st).1)) ∧ Rdr w' g s (runS (L s) nameB 64 st) ∧ Just g w w' := by
  obtain ⟨F, hF⟩ := name_it (runS (L s) nameB 64 st)
  rw [hF.out]
  have HR := Lib.hid hr
  clear hr
  obtain ⟨n0, b0⟩ := st
  simp only [] at hn ⊢
  have x0 := HR.out.c0
  have x1 := HR.out.c1
  have x2 := HR.out.c2
  have y2 := HR.out.f2
  simp only [] at x1 x2
  cases b0 with
  | true =>
    have hf : Hid (F = (n0, true)) := by rw [← hF.out]; rfl
    have q1 : (0 : Int) ≤ (n0 : Int) := by omega
    have q2 : (n0 : Int) ≤ (s.size : Int) := by omega
    clear hF x0 x1 x2 y2
    go_enter Tryz.func66, Tryz.ntmps66
    have x1 := HR.out.c1
    simp only [] at x1
    go_wp2_with fail
    go_loopw [12] (fun _ wr => wr = w) (fun _ _ => 0)
    case atStart => rfl
    clear x1
    case round =>
      obtain ⟨wq, hwq⟩ : ∃ wq, wq = wr := ⟨wr, rfl⟩
      subst hwq
      subst hrel
      have x0 := HR.out.c0
      have x1 := HR.out.c1
      have x2 := HR.out.c2
      have y2 := HR.out.f2
      simp only [] at x1 x2
      go_wp2_with fail
      go_quiet (fail)
      have R2 := Lib.hid ((HR.out.next (below_drewN (Below.refl _ _) nq) HR.out.lt).setBad true)
      have J2 := Lib.hid (((Just.refl g wq).trans (Just.of (below_drewN (Below.refl _ _) nq) (Nat.le_refl _))).trans (Just.set g 2 (wq.drewN nq) (.bool true)))
      go_wp2_with fail
      obtain ⟨w2, hw2⟩ := name_it ((wq.drewN nq).setCell ⟨g, 2, none⟩ (.bool true))
      rw [hw2.out] at R2 J2
      rw [hw2.out]
      clear hw2 x0 x1 x2 y2
      have x0 := R2.out.c0
      have x1 := R2.out.c1
      simp only [] at x1
      go_quiet (fail)
      go_wp2_with fail
      go_ret
      rw [hf.out]
      exact ⟨by first | rfl | simp, R2.out.next (below_drewN (Below.refl _ _) _) R2.out.lt, J2.out.trans (Just.of (below_drewN (Below.refl _ _) _) (Nat.le_refl _))⟩
  | false =>
    obtain ⟨K, hK⟩ := name_it (runK nameB 64 ((L s).drop n0))
    have hf : Hid (F = (n0 + K, decide (K = 0))) := by
      rw [← hF.out]; unfold runS Hid
      rw [if_neg nf]
      show (n0 + runK nameB 64 ((L s).drop n0), decide (runK nameB 64 ((L s).drop n0) = 0)) = _
      rw [hK.out]
    clear hF x0 x1 x2 y2
    have x1 := HR.out.c1
    simp only [] at x1
    go_enter Tryz.func66, Tryz.ntmps66
    go_wp2_with fail
    go_loopw [12] (fun _ wr => ∃ j : Nat, j ≤ 64 ∧ n0 + j ≤ s.size ∧ Hid (Rdr wr g s (n0 + j, false)) ∧ Hid (j + runK nameB (64 - j) ((L s).drop (n0 + j)) = K) ∧ Hid (Just g w wr)) (fun _ wr => s.size + 1 - rdAt wr g)
    case atStart => exact ⟨0, by omega, hn, HR, by unfold Hid; rw [Nat.zero_add]; exact hK.out, Just.refl _ _⟩
    clear x1 HR hK
    case round =>
      obtain ⟨j, hj, hnj, hR, hk, hJ⟩ := hrel
      obtain ⟨wq, hwq⟩ : ∃ wq, wq = wr := ⟨wr, rfl⟩
      subst hwq
      obtain ⟨n, hne⟩ : ∃ n, n = n0 + j := ⟨_, rfl⟩
      rw [← hne] at hnj hR hk
      have HN := Lib.hid hne
      have hjn : IntKind.i64.wrap ((n : Int) - (n0 : Int)) = (j : Int) := by rw [show (n : Int) - (n0 : Int) = (j : Int) by omega]; exact IntWalk.i64_in _ (by omega)
      have q0 : n0 ≤ n := by omega
      have q1 : (0 : Int) ≤ (n0 : Int) := by omega
      have q2 : (n0 : Int) ≤ (n : Int) := by omega
      have q3 : (n : Int) ≤ (s.size : Int) := by omega
      have q4 : (0 : Int) ≤ (n : Int) := by omega
      clear hne
      have x0 := hR.out.c0
      have x1 := hR.out.c1
      have x2 := hR.out.c2
      have y2 := hR.out.f2
      simp only [] at x1 x2
      by_cases h1 : n < s.size
      · have d1 : decide ((n : Int) < (s.size : Int)) = true := decide_eq_true (by omega)
        have d1n : decide (n < s.size) = true := decide_eq_true h1
        have q5 : (n : Int) < (s.size : Int) := by omega
        by_cases h2 : j < 64
        · have d2 : decide ((j : Int) < 64) = true := decide_eq_true (by omega)
          have d2n : decide (j < 64) = true := decide_eq_true h2
          have hk2 := hk.out
          rw [L_drop h1, show 64 - j = (64 - (j + 1)) + 1 by omega, runK] at hk2
          have HM := Lib.hid (isname_any s[n])
          cases hm : nameB s[n] with
          | true =>
            rw [hm] at HM hk2
            rw [if_pos rfl] at hk2
            have HK : Hid (j + 1 + runK nameB (64 - (j + 1)) ((L s).drop (n + 1)) = K) := by unfold Hid; omega
            clear hk hk2
            go_wp2_with fail
            go_region_held3 (fun w' => w'.cell? ⟨g, 0, none⟩ = some (.string s) ∧ w'.cell? ⟨g, 1, none⟩ = some (.int .i64 n) ∧ w'.cell? ⟨g, 2, none⟩ = some (.bool false)) (go_keep) ((go_at_call 54; refine (HM.out _).mono ?_; rintro e w' ⟨rfl, rfl⟩))
            have y1 := hR.out.f1
            have R1 := hR.out.setAt (n + 1)
            have R2 := Lib.hid (R1.next ((Below.refl _ _).drew) R1.lt)
            clear R1
            have J2 := Lib.hid ((hJ.out.trans (Just.set g 1 wq (.int .i64 ((n + 1 : Nat) : Int)))).trans (Just.of ((Below.refl _ _).drew) (Nat.le_refl _)))
            clear d1 d1n d2 d2n hjn
            go_wp2_with fail
            go_roundw
            case rel =>
              have hh := HN.out
              refine ⟨j + 1, by omega, by omega, ?_, ?_, J2⟩
              · rw [show n0 + (j + 1) = n + 1 by omega]; exact R2
              · rw [show n0 + (j + 1) = n + 1 by omega]; exact HK
            case measure =>
              have e1 := hR.out.rdAt
              have e2 : rdAt ((wq.setCell ⟨g, 1, none⟩ (.int .i64 ((n : Int) + 1))).drew) g = n + 1 := R2.out.rdAt
              simp only [] at e1 e2
              omega
          | false =>
            rw [hm] at HM hk2
            rw [if_neg nf] at hk2
            have hrk : runK nameB (64 - j) ((L s).drop n) = 0 := by
              rw [L_drop h1, show 64 - j = (64 - (j + 1)) + 1 by omega, runK, hm, if_neg nf]
            clear hk2
            have hkj : K = j := by have := hk.out; rw [hrk] at this; omega
            have hf2 : Hid (F = (n, decide (j = 0))) := by have := hf.out; rw [hkj, ← HN.out] at this; exact this
            obtain ⟨bb, hbb⟩ := name_it (decide (j = 0))
            rw [hbb.out] at hf2
            have hbz : ((n : Int) == (n0 : Int)) = bb := by
              rw [← hbb.out, Bool.eq_iff_iff, beq_iff_eq, decide_eq_true_eq]
              have := HN.out
              omega
            have hbz2 : (n == n0) = bb := by
              rw [← hbb.out, Bool.eq_iff_iff, beq_iff_eq, decide_eq_true_eq]
              have := HN.out
              omega
            clear hbb hkj hrk hk hf
            go_wp2_with fail
            go_region_held3 (fun w' => w'.cell? ⟨g, 0, none⟩ = some (.string s) ∧ w'.cell? ⟨g, 1, none⟩ = some (.int .i64 n) ∧ w'.cell? ⟨g, 2, none⟩ = some (.bool false)) (go_keep) ((go_at_call 54; refine (HM.out _).mono ?_; rintro e w' ⟨rfl, rfl⟩))
            clear d1 d1n d2 d2n hjn
            have R1 := hR.out.setBad bb
            have R2 := Lib.hid (R1.next ((Below.refl _ _).drew) R1.lt)
            have J2 := Lib.hid ((hJ.out.trans (Just.set g 2 wq (.bool bb))).trans (Just.of ((Below.refl _ _).drew) (Nat.le_refl _)))
            clear R1
            go_wp2_with fail
            obtain ⟨w2, hw2⟩ := name_it ((wq.setCell ⟨g, 2, none⟩ (.bool bb)).drew)
            rw [hw2.out] at R2 J2
            rw [hw2.out]
            clear hw2 x0 x1 x2 y2
            have x0 := R2.out.c0
            have x1 := R2.out.c1
            simp only [] at x1
            go_quiet (fail)
            go_wp2_with fail
            go_ret
            rw [hf2.out]
            exact ⟨by first | rfl | simp, R2.out.next (below_drewN (Below.refl _ _) _) R2.out.lt, J2.out.trans (Just.of (below_drewN (Below.refl _ _) _) (Nat.le_refl _))⟩
        · have d2 : decide ((j : Int) < 64) = false := decide_eq_false (by omega)
          have d2n : decide (j < 64) = false := decide_eq_false h2
          have hrk : runK nameB (64 - j) ((L s).drop n) = 0 := by rw [show 64 - j = 0 by omega]; rfl
          have hkj : K = j := by have := hk.out; rw [hrk] at this; omega
          have hf2 : Hid (F = (n, decide (j = 0))) := by have := hf.out; rw [hkj, ← HN.out] at this; exact this
          obtain ⟨bb, hbb⟩ := name_it (decide (j = 0))
          rw [hbb.out] at hf2
          have hbz : ((n : Int) == (n0 : Int)) = bb := by
            rw [← hbb.out, Bool.eq_iff_iff, beq_iff_eq, decide_eq_true_eq]
            have := HN.out
            omega
          have hbz2 : (n == n0) = bb := by
            rw [← hbb.out, Bool.eq_iff_iff, beq_iff_eq, decide_eq_true_eq]
            have := HN.out
            omega
          clear hbb hkj hrk hk hf
          go_wp2_with fail
          go_quiet (fail)
          have R2 := Lib.hid ((hR.out.next (below_drewN (Below.refl _ _) nq) hR.out.lt).setBad bb)
          have J2 := Lib.hid ((hJ.out.trans (Just.of (below_drewN (Below.refl _ _) nq) (Nat.le_refl _))).trans (Just.set g 2 (wq.drewN nq) (.bool bb)))
          go_wp2_with fail
          obtain ⟨w2, hw2⟩ := name_it ((wq.drewN nq).setCell ⟨g, 2, none⟩ (.bool bb))
          rw [hw2.out] at R2 J2
          rw [hw2.out]
          clear hw2 x0 x1 x2 y2
          have x0 := R2.out.c0
          have x1 := R2.out.c1
          simp only [] at x1
          go_quiet (fail)
          go_wp2_with fail
          go_ret
          rw [hf2.out]
          exact ⟨by first | rfl | simp, R2.out.next (below_drewN (Below.refl _ _) _) R2.out.lt, J2.out.trans (Just.of (below_drewN (Below.refl _ _) _) (Nat.le_refl _))⟩
      · have hns : n = s.size := by omega
        have d1 : decide ((n : Int) < (s.size : Int)) = false := decide_eq_false (by omega)
        have d1n : decide (n < s.size) = false := decide_eq_false h1
        have hrk : runK nameB (64 - j) ((L s).drop n) = 0 := runK_end nameB _ (List.drop_of_length_le (by rw [L_length]; omega))
        have hkj : K = j := by have := hk.out; rw [hrk] at this; omega
        have hf2 : Hid (F = (n, decide (j = 0))) := by have := hf.out; rw [hkj, ← HN.out] at this; exact this
        obtain ⟨bb, hbb⟩ := name_it (decide (j = 0))
        rw [hbb.out] at hf2
        have hbz : ((n : Int) == (n0 : Int)) = bb := by
          rw [← hbb.out, Bool.eq_iff_iff, beq_iff_eq, decide_eq_true_eq]
          have := HN.out
          omega
        have hbz2 : (n == n0) = bb := by
          rw [← hbb.out, Bool.eq_iff_iff, beq_iff_eq, decide_eq_true_eq]
          have := HN.out
          omega
        clear hbb hkj hrk hk hf
        clear hns
        go_wp2_with fail
        go_quiet (fail)
        have R2 := Lib.hid ((hR.out.next (below_drewN (Below.refl _ _) nq) hR.out.lt).setBad bb)
        have J2 := Lib.hid ((hJ.out.trans (Just.of (below_drewN (Below.refl _ _) nq) (Nat.le_refl _))).trans (Just.set g 2 (wq.drewN nq) (.bool bb)))
        go_wp2_with fail
        obtain ⟨w2, hw2⟩ := name_it ((wq.drewN nq).setCell ⟨g, 2, none⟩ (.bool bb))
        rw [hw2.out] at R2 J2
        rw [hw2.out]
        clear hw2 x0 x1 x2 y2
        have x0 := R2.out.c0
        have x1 := R2.out.c1
        simp only [] at x1
        go_quiet (fail)
        go_wp2_with fail
        go_ret
        rw [hf2.out]
        exact ⟨by first | rfl | simp, R2.out.next (below_drewN (Below.refl _ _) _) R2.out.lt, J2.out.trans (Just.of (below_drewN (Below.refl _ _) _) (Nat.le_refl _))⟩
end Go.Proofs.YtfgaiopkclogmaaGreatDoor
