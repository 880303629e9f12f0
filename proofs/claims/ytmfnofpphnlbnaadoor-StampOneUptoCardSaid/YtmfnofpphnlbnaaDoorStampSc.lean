/- StampOne: the walk of the law. -/
import Derived.Test.YtmfnofpphnlbnaaDoorStampSb
namespace Go.Proofs.YtmfnofpphnlbnaaDoor
open Go Go.RowKit
set_option maxHeartbeats 4000000

theorem plain_len {s : List UInt8} {nY m : Int} (h : Stm.Good 2 s nY m) : s.length = 24 := by
  obtain ⟨st, wd, mo, dt, y, F, D, rfl, _⟩ := h
  have l1 := Stm.short3 F.wd7
  have l2 := Stm.mon3 F.mo12
  have l3 := Stm.dt_len D
  unfold Stm.txt Stm.clk
  rw [if_neg (show ¬ ((2 : Nat) = 0) by decide), if_neg (show ¬ ((2 : Nat) = 1) by decide)]
  simp only [Stm.d2, Stm.d4, List.length_append, List.length_cons, List.length_nil, l1, l2, l3]
theorem cut_eq (s t : ByteArray) : (((s.extract 0 8) ++ (s.extract 9 s.size)).toList == ((t.extract 0 8) ++ (t.extract 9 t.size)).toList) = decide ((L s).take 8 ++ (L s).drop 9 = (L t).take 8 ++ (L t).drop 9) := by
  rw [str_eq]
  congr 1
  rw [extract_head, extract_head, extract_tail, extract_tail]
  have e : ∀ a b : List UInt8, L (bs a ++ bs b) = a ++ b := by intro a b; simp [L, bs, ByteArray.data_append]
  rw [e, e]

set_option maxRecDepth 100000 in
theorem lawOne_any (s t : ByteArray) (now : Int) (w : World) (hE : EnvS w) (hs : s.size ≤ 1048576) (ht : t.size ≤ 1048576) :
    Calls Tryd.prog 10 #[.string s, .string t, .int .i64 now] w fun e w' => e = .returned (.bool true) ∧ Below w.heap.size w w' := by
  have HE := Lib.hid hE
  clear hE
  obtain ⟨p, hp⟩ := name_it (Stm.parseP (L s) (isMom now) (nowY now))
  obtain ⟨q, hq⟩ := name_it (Stm.parseP (L t) (isMom now) (nowY now))
  have hlaw : Hid (p.e = 0 → q.e = 0 → p.form = q.form → s.size = t.size → s ≠ t → Stm.leaptB (L s) = false → Stm.leaptB (L t) = false →
      (p.form = 2 → 9 < s.size ∧ 9 < t.size) ∧ ((p.form = 2 ∧ (L s).take 8 ++ (L s).drop 9 = (L t).take 8 ++ (L t).drop 9) → p.m = q.m) ∧ (¬ (p.form = 2 ∧ (L s).take 8 ++ (L s).drop 9 = (L t).take 8 ++ (L t).drop 9) → p.m ≠ q.m)) := by
    intro e1 e2 hf _ hne l1 l2
    obtain ⟨-, f, f3, hpf, gp⟩ := Stm.good_of hp.out e1
    obtain ⟨-, f', f3', hqf, gq⟩ := Stm.good_of hq.out e2
    have hff : f = f' := by rw [hpf, hqf] at hf; omega
    subst hff
    refine ⟨fun h2 => ?_, fun ⟨h2, h3⟩ => ?_, fun hn => ?_⟩
    · obtain rfl : f = 2 := by rw [hpf] at h2; omega
      have a := plain_len gp
      have b := plain_len gq
      rw [L_length] at a b
      omega
    · obtain rfl : f = 2 := by rw [hpf] at h2; omega
      exact Stm.good_plain gp gq h3
    · refine Stm.good_one f3 gp gq l1 l2 (fun h => hne (L_inj.1 h)) (fun h2 h3 => hn ⟨by rw [hpf, h2]; rfl, h3⟩)
  obtain ⟨pm, pf, pe, pa⟩ := p
  obtain ⟨qm, qf, qe, qa⟩ := q
  dsimp only at hlaw
  have hps := fun wx h => parse_any s now wx h (by omega)
  have hqs := fun wx h => parse_any t now wx h (by omega)
  rw [hp.out] at hps
  rw [hq.out] at hqs
  unfold parseV at hps hqs
  have HP := Lib.hid hps
  have HQ := Lib.hid hqs
  clear hps hqs hp hq
  have hl1 := fun wx => leapt_any s wx (by omega)
  have hl2 := fun wx => leapt_any t wx (by omega)
  obtain ⟨b1, hb1⟩ := name_it (Stm.leaptB (L s))
  obtain ⟨b2, hb2⟩ := name_it (Stm.leaptB (L t))
  rw [hb1.out] at hl1 hlaw
  rw [hb2.out] at hl2 hlaw
  have HL1 := Lib.hid hl1
  have HL2 := Lib.hid hl2
  clear hl1 hl2 hb1 hb2
  have hst : ((s.toList == t.toList)) = decide (s = t) := by rw [str_eq, decide_eq_decide]; exact L_inj
  have hce := cut_eq s t
  obtain ⟨C, hC⟩ := name_it (decide ((L s).take 8 ++ (L s).drop 9 = (L t).take 8 ++ (L t).drop 9))
  rw [hC.out] at hce
  have hCe : Hid (C = true ↔ (L s).take 8 ++ (L s).drop 9 = (L t).take 8 ++ (L t).drop 9) := by rw [← hC.out]; unfold Hid; rw [decide_eq_true_eq]
  clear hC
  go_enter Tryd.func10, Tryd.ntmps10
  go_wp2_with fail
  refine (awake_any _ HE.out).mono ?_; rintro e w1 ⟨rfl, hb1⟩
  have HE1 := Lib.hid (HE.out.next hb1)
  go_wp2_with fail
  refine (HP.out _ HE1.out).mono ?_; rintro e w2 ⟨rfl, hb2⟩
  have HE2 := Lib.hid (HE1.out.next hb2)
  have c2 := hb1.trans (hb2.mono hb1.size)
  go_wp2_with fail
  refine (HQ.out _ HE2.out).mono ?_; rintro e w3 ⟨rfl, hb3⟩
  have c3 := c2.trans (hb3.mono c2.size)
  clear HP HQ
  by_cases h1 : pe = 0
  · by_cases h2 : qe = 0
    · by_cases h3 : pf = qf
      · by_cases h4 : s.size = t.size
        · by_cases h5 : s = t
          · subst h1 h2 h3 h5
            have g5 : (s.toList == s.toList) = true := by simp
            have g4 : ((s.size : Int) != (s.size : Int)) = false := by simp
            have g3 : (pf != pf) = false := by simp
            clear hlaw hce hst
            go_wp2_with fail
            all_goals (try (exfalso; omega))
            go_ret
            exact ⟨rfl, c3⟩
          · have hsr : (s.toList == t.toList) = false := by rw [hst]; exact decide_eq_false h5
            have hl := Lib.hid (hlaw.out h1 h2 h3 h4 h5)
            subst h1 h2 h3
            have g4 : ((s.size : Int) != (t.size : Int)) = false := by simp [h4]
            have g4' : ((s.size : Int) == (t.size : Int)) = true := by simp [h4]
            have g3 : (pf != pf) = false := by simp
            have H4 := Lib.hid h4
            clear hlaw hst h4
            go_wp2_with fail
            all_goals (try (exfalso; omega))
            refine (HL1.out _).mono ?_; rintro e w4 ⟨rfl, rfl⟩
            cases b1
            · go_wp2_with fail
              all_goals (try (exfalso; omega))
              refine (HL2.out _).mono ?_; rintro e w4 ⟨rfl, rfl⟩
              cases b2
              · obtain ⟨k1, k2, k3⟩ := hl.out (by trivial) (by trivial)
                by_cases h6 : pf = 2
                · obtain ⟨z1, z2⟩ := k1 h6
                  subst h6
                  have z1i : (9 : Int) < s.size := by omega
                  have z2i : (9 : Int) < t.size := by omega
                  have z1n : (9 : Int) ≤ s.size := by omega
                  have z2n : (9 : Int) ≤ t.size := by omega
                  have z1m : (8 : Int) ≤ s.size := by omega
                  have z2m : (8 : Int) ≤ t.size := by omega
                  have hzz : ¬ 9223372036854775807 < (s.extract 0 8).size + (s.extract 9 s.size).size := by rw [ByteArray.size_extract, ByteArray.size_extract]; omega
                  have hzz2 : ¬ 9223372036854775807 < (t.extract 0 8).size + (t.extract 9 t.size).size := by rw [ByteArray.size_extract, ByteArray.size_extract]; omega
                  cases C
                  · have k4 : pm ≠ qm := k3 (fun h => by have := hCe.out.2 h.2; simp at this)
                    have q1 : (pm == qm) = false := by simp [k4]
                    have q2 : (pm != qm) = true := by simp [k4]
                    clear k1 k2 k3 hl k4
                    go_wp2_with fail
                    go_quiet (fail)
                    go_wp2_with fail
                    all_goals (try (exfalso; omega))
                    go_ret
                    exact ⟨rfl, below_drewN c3 _⟩
                  · have k4 : pm = qm := k2 ⟨rfl, hCe.out.1 rfl⟩
                    have q1 : (pm == qm) = true := by simp [k4]
                    clear k1 k2 k3 hl k4
                    go_wp2_with fail
                    go_quiet (fail)
                    go_wp2_with fail
                    all_goals (try (exfalso; omega))
                    go_ret
                    exact ⟨rfl, below_drewN c3 _⟩
                · have k4 : pm ≠ qm := k3 (fun h => h6 h.1)
                  have q1 : (pm == qm) = false := by simp [k4]
                  have q2 : (pm != qm) = true := by simp [k4]
                  have q3 : (pf == 2) = false := by simp [h6]
                  clear k1 k2 k3 hl k4
                  go_wp2_with fail
                  go_quiet (fail)
                  go_wp2_with fail
                  all_goals (try (exfalso; omega))
                  go_ret
                  exact ⟨rfl, below_drewN c3 _⟩
              · go_wp2_with fail
                all_goals (try (exfalso; omega))
                go_ret
                exact ⟨rfl, c3⟩
            · go_wp2_with fail
              all_goals (try (exfalso; omega))
              go_ret
              exact ⟨rfl, c3⟩
        · have g4 : ((s.size : Int) != (t.size : Int)) = true := by simp; omega
          have g4' : ((s.size : Int) == (t.size : Int)) = false := by simp; omega
          subst h1 h2 h3
          have g3 : (pf != pf) = false := by simp
          clear hlaw hce hst h4
          go_wp2_with fail
          all_goals (try (exfalso; omega))
          go_ret
          exact ⟨rfl, c3⟩
      · have g3 : (pf != qf) = true := by simp [h3]
        have g3' : (pf == qf) = false := by simp [h3]
        subst h1 h2
        clear hlaw hce hst
        go_wp2_with fail
        all_goals (try (exfalso; omega))
        go_ret
        exact ⟨rfl, c3⟩
    · have g2 : (qe != 0) = true := by simp [h2]
      have g2' : (qe == 0) = false := by simp [h2]
      subst h1
      clear hlaw hce hst
      go_wp2_with fail
      all_goals (try (exfalso; omega))
      go_ret
      exact ⟨rfl, c3⟩
  · have g1 : (pe != 0) = true := by simp [h1]
    have g1' : (pe == 0) = false := by simp [h1]
    clear hlaw hce hst
    go_wp2_with fail
    all_goals (try (exfalso; omega))
    go_ret
    exact ⟨rfl, c3⟩
end Go.Proofs.YtmfnofpphnlbnaaDoor
