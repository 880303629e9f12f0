/- Contract of the document's List of tags. -/
import Derived.Test.YtjalfddedikibaaGreatDoorTagDJ
namespace Go.Proofs.YtjalfddedikibaaGreatDoor
open Go Go.RowKit
set_option maxHeartbeats 8000000

abbrev tRT : TypeId := 36
theorem infoRTg : (Tryz.prog.info? tRT).map (fun i => (i.zero, i.size, i.bytes)) = some (some (.agg #[.bool false, .string ⟨#[]⟩]), 2, 24) := by kernel_rfl

set_option maxRecDepth 100000 in
theorem rlist_any (s : ByteArray) (w : World) (hs : s.size ≤ 1048576) :
    Calls Tryz.prog 49 #[.string s] w fun e w' => ListRes tRT w.heap.size (listT (L s)) e w' ∧ Below w.heap.size w w' := by
  obtain ⟨i0, hi, hz0, hz1, hz2⟩ := info_parts infoRTg
  have hsm : s.size ≤ maxLen := by unfold maxLen; omega
  have HSM := Lib.hid hsm
  have hlenL := L_length s
  have HLL := Lib.hid hlenL
  have hll : (trimL (L s)).length ≤ s.size := by unfold trimL; rw [← hlenL]; exact dropWhile_le _ _
  have htl := trim_le (L s)
  rw [hlenL] at htl
  have TR := Lib.hid (fun wx => rtrim6_any s wx HSM.out)
  obtain ⟨T, hT⟩ := name_it (trim (L s))
  rw [hT.out] at htl TR
  obtain ⟨a, ha⟩ : ∃ a : Nat, a = s.size - (trimL (L s)).length := ⟨_, rfl⟩
  have HA := Lib.hid ha
  have hasz : a ≤ s.size := by omega
  have HLS : Hid (lsT true ((L s).length - (trimL (L s)).length) [] (trim (L s)) = lsT true (a + 0) [] (T.drop 0)) := by
    unfold Hid; rw [hT.out, HLL.out, ← HA.out, Nat.add_zero, List.drop_zero]
  obtain ⟨R, hR⟩ := name_it (lsT true (a + 0) [] (T.drop 0))
  rw [hR.out] at HLS
  have hs0 : Hid (trimL ((L s).drop 0) = trimL (L s)) := by unfold Hid; rw [List.drop_zero]
  have szT : (bs T).size = T.length := size_bs T
  clear hsm hlenL hll ha
  go_enter Tryz.func49, Tryz.ntmps49
  go_wp2_with fail
  go_loop [6] (fun i => ∃ k : Nat, k ≤ s.size ∧ i = .int .i64 k ∧ Hid (trimL ((L s).drop k) = trimL (L s))) (fun i => s.size - (intOf i).toNat)
  case atStart => exact ⟨0, Nat.zero_le _, rfl, hs0⟩
  clear hs0
  case round =>
    obtain ⟨k, hk, rfl, hr⟩ := hrel
    by_cases hgo : ∃ h : k < s.size, isBl s[k] = true
    · obtain ⟨hlt, hbl⟩ := hgo
      have r0 : (0 : Int) ≤ (k : Int) := by omega
      have r1 : (k : Int) < (s.size : Int) := by omega
      have hr2 := hr.out
      rw [L_drop hlt, trimL_cons_bl _ _ hbl] at hr2
      have HR2 := Lib.hid hr2
      obtain ⟨c, hc⟩ := name_it s[k]
      rw [hc.out] at hbl
      have hck := hc.out
      have HBL := Lib.hid hbl
      clear hr hr2 hbl
      go_wp2_with fail
      all_goals (try (exfalso; omega))
      refine (blank6_any c _).mono ?_; rintro e w' ⟨rfl, rfl⟩
      rw [HBL.out]
      go_wp2_with fail
      all_goals (try (exfalso; omega))
      go_round
      case rel => exact ⟨k + 1, by omega, by go_num, HR2⟩
      case measure => simp [intOf]; omega
    · have HKA : Hid (k = a) := by
        unfold Hid
        rw [HA.out]
        have h2 := hr.out
        by_cases hlt : k < s.size
        · have hnb : isBl s[k] = false := by rw [Bool.eq_false_iff]; exact fun h => hgo ⟨hlt, h⟩
          rw [L_drop hlt, trimL_cons_no _ _ hnb] at h2
          rw [← h2, ← L_drop hlt, List.length_drop, HLL.out]; omega
        · obtain rfl : k = s.size := by omega
          rw [L_drop_all] at h2
          rw [← h2]; show s.size = s.size - 0; omega
      have hend : (k < s.size ∧ ∃ c : UInt8, Hid (∀ h : k < s.size, s[k] = c) ∧ Hid (isBl c = false)) ∨ k = s.size := by
        by_cases hlt : k < s.size
        · exact Or.inl ⟨hlt, s[k], (fun _ => rfl), by rw [Bool.eq_false_iff]; exact fun h => hgo ⟨hlt, h⟩⟩
        · exact Or.inr (by omega)
      have hka2 : k = a := HKA.out
      clear hgo hr HKA
      rcases hend with ⟨hlt, c, hck, HBL⟩ | hke
      all_goals subst hka2
      · have hck3 := hck.out hlt
        have r0 : (0 : Int) ≤ (k : Int) := by omega
        have r1 : (k : Int) < (s.size : Int) := by omega
        by_cases hst : T = [42]
        · have HF : Hid (listT (L s) = ⟨[], true, 0, 0⟩) := listT_star (by rw [hT.out]; exact hst)
          have he : ((bs T).toList == [42]) = true := by rw [toList_L, L_bs, hst]; rfl
          clear hst
          go_wp2_with fail
          all_goals (try (exfalso; omega))
          refine (blank6_any c _).mono ?_; rintro e w' ⟨rfl, rfl⟩
          rw [HBL.out]
          go_wp2_with fail
          all_goals (try (exfalso; omega))
          refine (TR.out _).mono ?_; rintro e w' ⟨rfl, rfl⟩
          go_wp2_with fail
          all_goals (try (exfalso; omega))
          (try rw [Exit.noGoto_ret])
          refine bodyPost_ret (results4 rfl _ _ _) rfl ?_
          exact ⟨listRes_no HF.out, Below.refl _ _⟩
        · have he : ((bs T).toList == [42]) = false := by rw [toList_L, L_bs]; simpa using hst
          have HNS : Hid (trim (L s) ≠ [42]) := by unfold Hid; rw [hT.out]; exact hst
          have HR0 : Hid (lsT true (k + 0) [] (T.drop 0) = R) := hR
          clear hst hR hT
          go_wp2_with fail
          all_goals (try (exfalso; omega))
          refine (blank6_any c _).mono ?_; rintro e w' ⟨rfl, rfl⟩
          rw [HBL.out]
          go_wp2_with fail
          all_goals (try (exfalso; omega))
          refine (TR.out _).mono ?_; rintro e w' ⟨rfl, rfl⟩
          go_wp2_with fail
          all_goals (try (exfalso; omega))
          clear he TR
          have OW0 : Hid (w.ownsRow w.heap.size tRT 2 (.slice none 0 0) 0 (rowTg [])) := World.ownsRow_nil ..
          have B0 : Hid (Below w.heap.size w w) := Below.refl _ _
          go_loopw [8, 9, 10, 11, 12, 13] (fun l p fr _ _ _ wr => ∃ (j : Nat) (acc : List Tg) (f : Bool), j ≤ T.length ∧ acc.length ≤ j ∧ p = .int .i64 j ∧ fr = .bool f ∧ Hid (wr.ownsRow w.heap.size tRT 2 l acc.length (rowTg acc)) ∧ Hid (lsT f (k + j) acc (T.drop j) = R) ∧ Hid (Below w.heap.size w wr)) (fun _ p _ _ _ _ _ => T.length - (intOf p).toNat)
          case atStart => exact ⟨0, [], true, Nat.zero_le _, Nat.zero_le _, rfl, rfl, OW0, HR0, B0⟩
          clear OW0 HR0 B0
          case round =>
            obtain ⟨j, acc, f, hj, hacj, rfl, rfl, hO, hr, hB⟩ := hrel
            obtain ⟨wq, hwq⟩ : ∃ wq, wq = wr := ⟨wr, rfl⟩
            subst hwq
            obtain ⟨lp, lc, hlv⟩ := row_slice hO.out
            subst hlv
            by_cases hjt : j < T.length
            · have hjs : j < (bs T).size := by rw [szT]; exact hjt
              have hg : T.drop j = (bs T)[j] :: T.drop (j + 1) := by
                have := L_drop hjs
                rwa [L_bs] at this
              have hr2 := hr.out
              rw [hg] at hr2
              obtain ⟨c, hc⟩ := name_it (bs T)[j]
              rw [hc.out] at hr2 hg
              have hck2 := hc.out
              have t0 : (0 : Int) ≤ (j : Int) := by omega
              have t1 : (j : Int) < (T.length : Int) := by omega
              have dj : decide (j < T.length) = true := decide_eq_true hjt
              have HG := Lib.hid hg
              clear hg hr
              cases hbl : isBl c with
              | true =>
                rw [lsT_bl hbl] at hr2
                have HR2 := Lib.hid (show lsT f (k + (j + 1)) acc (T.drop (j + 1)) = R from hr2)
                have HBL2 := Lib.hid hbl
                clear hr2 hbl HG
                go_wp2_with fail
                all_goals (try (exfalso; omega))
                refine (blank6_any c _).mono ?_; rintro e w' ⟨rfl, rfl⟩
                rw [HBL2.out]
                go_wp2_with fail
                all_goals (try (exfalso; omega))
                go_roundw
                case rel => exact ⟨j + 1, acc, f, by omega, by omega, by go_num, rfl, hO, HR2, hB⟩
                case measure => simp [intOf]; omega
              | false =>
                have HBL2 := Lib.hid hbl
                by_cases h44 : c = 44
                · rw [h44, lsT_comma] at hr2
                  have HR2 := Lib.hid (show lsT true (k + (j + 1)) acc (T.drop (j + 1)) = R from hr2)
                  have e44 : ((c.toNat : Int) == 44) = true := by rw [h44]; rfl
                  clear hr2 hbl HG h44
                  go_wp2_with fail
                  all_goals (try (exfalso; omega))
                  refine (blank6_any c _).mono ?_; rintro e w' ⟨rfl, rfl⟩
                  rw [HBL2.out]
                  go_wp2_with fail
                  all_goals (try (exfalso; omega))
                  go_roundw
                  case rel => exact ⟨j + 1, acc, true, by omega, by omega, by go_num, rfl, hO, HR2, hB⟩
                  case measure => simp [intOf]; omega
                · have e44 : ((c.toNat : Int) == 44) = false := by
                    rw [beq_eq_false_iff_ne]; intro e; exact h44 (UInt8.toNat_inj.1 (by show c.toNat = 44; omega))
                  cases f with
                  | false =>
                    rw [lsT_bad hbl h44] at hr2
                    have HF : Hid (listT (L s) = ⟨[], false, k + j, 81⟩) := listT_bad HNS.out (HLS.out.trans hr2.symm)
                    clear hr2 hbl HG h44
                    go_wp2_with fail
                    all_goals (try (exfalso; omega))
                    refine (blank6_any c _).mono ?_; rintro e w' ⟨rfl, rfl⟩
                    rw [HBL2.out]
                    go_wp2_with fail
                    all_goals (try (exfalso; omega))
                    (try rw [Exit.noGoto_ret])
                    refine bodyPost_ret (results4 rfl _ _ _) rfl ?_
                    exact ⟨by have h := listRes_no (T := tRT) (B := w.heap.size) (w := wq) HF.out; rw [Int.natCast_add] at h; exact h, hB.out⟩
                  | true =>
                    have RD := Lib.hid (fun wx => trread_any (bs T) j wx (by rw [szT]; omega) (by rw [szT]; omega))
                    rw [L_bs] at RD
                    have hul : (T.drop j).length = T.length - j := List.length_drop
                    have hrn := rdT_le (T.drop j)
                    rw [hul] at hrn
                    obtain ⟨rr, hrr⟩ := name_it (rdT (T.drop j))
                    rw [hrr.out] at RD hrn
                    rw [← HG.out] at hr2
                    obtain ⟨⟨tw, tx⟩, n, ok⟩ := rr
                    simp only at hrn
                    have hrr2 := hrr.out
                    unfold rrdV encT at RD
                    obtain ⟨X, hX⟩ := name_it (bs tx)
                    simp only [hX.out] at RD
                    obtain ⟨q, hqn⟩ : ∃ q : Nat, q = j + n := ⟨_, rfl⟩
                    rw [← hqn] at RD
                    have HQN := Lib.hid hqn
                    have hq1 : j ≤ q := by omega
                    have hq2 : q ≤ T.length := by omega
                    cases ok with
                    | false =>
                      by_cases hnl : q = T.length
                      · have hnl2 : n = T.length - j := by omega
                        rw [HG.out] at hr2 hrr2 hul
                        rw [lsT_over hbl h44 hrr2 (by rw [hul]; exact hnl2)] at hr2
                        have HF : Hid (listT (L s) = ⟨[], false, s.size, 81⟩) := by unfold Hid; rw [← HLL.out]; exact listT_over HNS.out (HLS.out.trans hr2.symm)
                        have dsum : ((q : Int) == (T.length : Int)) = true := by simp; omega
                        clear hr2 hbl HG h44 hrr2 hul hrr hnl2 hqn
                        go_wp2_with fail
                        all_goals (try (exfalso; omega))
                        refine (blank6_any c _).mono ?_; rintro e w' ⟨rfl, rfl⟩
                        rw [HBL2.out]
                        go_wp2_with fail
                        all_goals (try (exfalso; omega))
                        refine (RD.out _).mono ?_; rintro e w5 ⟨rfl, b5⟩
                        have B5 := Lib.hid (hB.out.trans (b5.mono hB.out.size))
                        clear b5
                        go_wp2_with fail
                        all_goals (try (exfalso; omega))
                        (try rw [Exit.noGoto_ret])
                        refine bodyPost_ret (results4 rfl _ _ _) rfl ?_
                        exact ⟨listRes_no HF.out, B5.out.alloc B5.out.size _⟩
                      · have hnl2 : n ≠ T.length - j := by omega
                        rw [HG.out] at hr2 hrr2 hul
                        rw [lsT_wrong hbl h44 hrr2 (by rw [hul]; exact hnl2)] at hr2
                        have HF : Hid (listT (L s) = ⟨[], false, k + q, 81⟩) := by unfold Hid; rw [HQN.out, ← Nat.add_assoc]; exact listT_bad HNS.out (HLS.out.trans hr2.symm)
                        have dsum : ((q : Int) == (T.length : Int)) = false := by simp; omega
                        clear hr2 hbl HG h44 hrr2 hul hrr hnl2 hqn
                        go_wp2_with fail
                        all_goals (try (exfalso; omega))
                        refine (blank6_any c _).mono ?_; rintro e w' ⟨rfl, rfl⟩
                        rw [HBL2.out]
                        go_wp2_with fail
                        all_goals (try (exfalso; omega))
                        refine (RD.out _).mono ?_; rintro e w5 ⟨rfl, b5⟩
                        have B5 := Lib.hid (hB.out.trans (b5.mono hB.out.size))
                        clear b5
                        go_wp2_with fail
                        all_goals (try (exfalso; omega))
                        (try rw [Exit.noGoto_ret])
                        refine bodyPost_ret (results4 rfl _ _ _) rfl ?_
                        exact ⟨by have h := listRes_no (T := tRT) (B := w.heap.size) (w := w5.alloc (.cells #[.bool tw, .string X] tRT)) HF.out; rw [Int.natCast_add] at h; exact h, B5.out.alloc B5.out.size _⟩
                    | true =>
                      have hn2 := rdT_pos (T.drop j) (by rw [hrr2])
                      rw [hrr2] at hn2
                      simp only at hn2
                      rw [HG.out] at hr2 hrr2
                      rw [lsT_read hbl h44 hrr2, ← HG.out, List.drop_drop, Nat.add_assoc, ← hqn] at hr2
                      have HR2 := Lib.hid hr2
                      have hjq : j + 2 ≤ q := by omega
                      clear hr2 hbl HG h44 hrr2 hul hrr hqn
                      go_wp2_with fail
                      all_goals (try (exfalso; omega))
                      refine (blank6_any c _).mono ?_; rintro e w' ⟨rfl, rfl⟩
                      rw [HBL2.out]
                      go_wp2_with fail
                      all_goals (try (exfalso; omega))
                      refine (RD.out _).mono ?_; rintro e w5 ⟨rfl, b5⟩
                      have B5 := Lib.hid (hB.out.trans (b5.mono hB.out.size))
                      have O5 := Lib.hid (row_next hO.out b5)
                      have O6 : Hid ((w5.alloc (.cells #[.bool tw, .string X] tRT)).ownsRow w.heap.size tRT 2 (.slice lp acc.length lc) acc.length (rowTg acc)) := O5.out.alloc _
                      have B6 : Hid (Below w.heap.size w (w5.alloc (.cells #[.bool tw, .string X] tRT))) := B5.out.alloc B5.out.size _
                      clear b5 O5 B5
                      go_wp2_with (at_builtin; refine appendC rfl _ _ 88 rfl w.heap.size tRT i0 (.agg #[.bool false, .string ⟨#[]⟩]) 2 24 Tryz.underlying88 hi hz0 hz1 hz2 rfl (by decide) O6.out rfl #[.bool tw, .string X] rfl (by intro u hu; simp only [List.mem_cons, List.not_mem_nil, or_false] at hu; rcases hu with rfl | rfl <;> rfl) rfl (by first | rfl | (simp; done)) ?_ ?_ ?_ ?_)
                      · unfold maxLen; omega
                      · omega
                      · exact B6.out.size
                      intro g7 c7 w7 hown7 b7
                      have O7 : Hid (w7.ownsRow w.heap.size tRT 2 (.slice (some ⟨g7, 0, none⟩) (acc.length + 1) c7) (acc ++ [(tw, tx)]).length (rowTg (acc ++ [(tw, tx)]))) := by
                        unfold Hid; rw [rowTg_snoc, List.length_append, List.length_singleton, hX.out]; exact hown7
                      have B7 := Lib.hid (B6.out.trans b7)
                      have LA : Hid ((acc ++ [(tw, tx)]).length ≤ q) := by unfold Hid; rw [List.length_append, List.length_singleton]; omega
                      clear hown7 b7 O6 B6
                      go_wp2_with fail
                      all_goals (try (exfalso; omega))
                      go_roundw
                      case rel => exact ⟨q, _, false, by omega, LA.out, rfl, rfl, O7, HR2, B7⟩
                      case measure => simp [intOf]; omega
            · obtain rfl : j = T.length := by omega
              have dj : decide (T.length < T.length) = false := decide_eq_false (by omega)
              have hr2 := hr.out
              rw [List.drop_length, lsT_nil] at hr2
              by_cases hac : acc = []
              · rw [if_pos hac] at hr2
                have HF : Hid (listT (L s) = ⟨[], false, s.size, 81⟩) := by unfold Hid; rw [← HLL.out]; exact listT_over HNS.out (HLS.out.trans hr2.symm)
                subst hac
                clear hr2 hr
                go_wp2_with fail
                all_goals (try (exfalso; omega))
                (try rw [Exit.noGoto_ret])
                refine bodyPost_ret (results4 rfl _ _ _) rfl ?_
                exact ⟨listRes_no HF.out, hB.out⟩
              · rw [if_neg hac] at hr2
                have HF : Hid (listT (L s) = ⟨acc, false, 0, 0⟩) := listT_good HNS.out (HLS.out.trans hr2.symm)
                have hal : 0 < acc.length := List.length_pos_iff.2 hac
                have dal : ((acc.length : Int) == 0) = false := by rw [beq_eq_false_iff_ne]; omega
                clear hr2 hr hac
                go_wp2_with fail
                all_goals (try (exfalso; omega))
                (try rw [Exit.noGoto_ret])
                refine bodyPost_ret (results4 rfl _ _ _) rfl ?_
                exact ⟨listRes_yes HF.out hO.out, hB.out⟩
      · have dks : decide ((k : Int) < (s.size : Int)) = false := decide_eq_false (by omega)
        have dks2 : decide (k < s.size) = false := decide_eq_false (by omega)
        clear hke
        by_cases hst : T = [42]
        · have HF : Hid (listT (L s) = ⟨[], true, 0, 0⟩) := listT_star (by rw [hT.out]; exact hst)
          have he : ((bs T).toList == [42]) = true := by rw [toList_L, L_bs, hst]; rfl
          clear hst
          go_wp2_with fail
          all_goals (try (exfalso; omega))
          refine (TR.out _).mono ?_; rintro e w' ⟨rfl, rfl⟩
          go_wp2_with fail
          all_goals (try (exfalso; omega))
          (try rw [Exit.noGoto_ret])
          refine bodyPost_ret (results4 rfl _ _ _) rfl ?_
          exact ⟨listRes_no HF.out, Below.refl _ _⟩
        · have he : ((bs T).toList == [42]) = false := by rw [toList_L, L_bs]; simpa using hst
          have HNS : Hid (trim (L s) ≠ [42]) := by unfold Hid; rw [hT.out]; exact hst
          have HR0 : Hid (lsT true (k + 0) [] (T.drop 0) = R) := hR
          clear hst hR hT
          go_wp2_with fail
          all_goals (try (exfalso; omega))
          refine (TR.out _).mono ?_; rintro e w' ⟨rfl, rfl⟩
          go_wp2_with fail
          all_goals (try (exfalso; omega))
          clear he TR
          have OW0 : Hid (w.ownsRow w.heap.size tRT 2 (.slice none 0 0) 0 (rowTg [])) := World.ownsRow_nil ..
          have B0 : Hid (Below w.heap.size w w) := Below.refl _ _
          go_loopw [8, 9, 10, 11, 12, 13] (fun l p fr _ _ _ wr => ∃ (j : Nat) (acc : List Tg) (f : Bool), j ≤ T.length ∧ acc.length ≤ j ∧ p = .int .i64 j ∧ fr = .bool f ∧ Hid (wr.ownsRow w.heap.size tRT 2 l acc.length (rowTg acc)) ∧ Hid (lsT f (k + j) acc (T.drop j) = R) ∧ Hid (Below w.heap.size w wr)) (fun _ p _ _ _ _ _ => T.length - (intOf p).toNat)
          case atStart => exact ⟨0, [], true, Nat.zero_le _, Nat.zero_le _, rfl, rfl, OW0, HR0, B0⟩
          clear OW0 HR0 B0
          case round =>
            obtain ⟨j, acc, f, hj, hacj, rfl, rfl, hO, hr, hB⟩ := hrel
            obtain ⟨wq, hwq⟩ : ∃ wq, wq = wr := ⟨wr, rfl⟩
            subst hwq
            obtain ⟨lp, lc, hlv⟩ := row_slice hO.out
            subst hlv
            by_cases hjt : j < T.length
            · have hjs : j < (bs T).size := by rw [szT]; exact hjt
              have hg : T.drop j = (bs T)[j] :: T.drop (j + 1) := by
                have := L_drop hjs
                rwa [L_bs] at this
              have hr2 := hr.out
              rw [hg] at hr2
              obtain ⟨c, hc⟩ := name_it (bs T)[j]
              rw [hc.out] at hr2 hg
              have hck2 := hc.out
              have t0 : (0 : Int) ≤ (j : Int) := by omega
              have t1 : (j : Int) < (T.length : Int) := by omega
              have dj : decide (j < T.length) = true := decide_eq_true hjt
              have HG := Lib.hid hg
              clear hg hr
              cases hbl : isBl c with
              | true =>
                rw [lsT_bl hbl] at hr2
                have HR2 := Lib.hid (show lsT f (k + (j + 1)) acc (T.drop (j + 1)) = R from hr2)
                have HBL2 := Lib.hid hbl
                clear hr2 hbl HG
                go_wp2_with fail
                all_goals (try (exfalso; omega))
                refine (blank6_any c _).mono ?_; rintro e w' ⟨rfl, rfl⟩
                rw [HBL2.out]
                go_wp2_with fail
                all_goals (try (exfalso; omega))
                go_roundw
                case rel => exact ⟨j + 1, acc, f, by omega, by omega, by go_num, rfl, hO, HR2, hB⟩
                case measure => simp [intOf]; omega
              | false =>
                have HBL2 := Lib.hid hbl
                by_cases h44 : c = 44
                · rw [h44, lsT_comma] at hr2
                  have HR2 := Lib.hid (show lsT true (k + (j + 1)) acc (T.drop (j + 1)) = R from hr2)
                  have e44 : ((c.toNat : Int) == 44) = true := by rw [h44]; rfl
                  clear hr2 hbl HG h44
                  go_wp2_with fail
                  all_goals (try (exfalso; omega))
                  refine (blank6_any c _).mono ?_; rintro e w' ⟨rfl, rfl⟩
                  rw [HBL2.out]
                  go_wp2_with fail
                  all_goals (try (exfalso; omega))
                  go_roundw
                  case rel => exact ⟨j + 1, acc, true, by omega, by omega, by go_num, rfl, hO, HR2, hB⟩
                  case measure => simp [intOf]; omega
                · have e44 : ((c.toNat : Int) == 44) = false := by
                    rw [beq_eq_false_iff_ne]; intro e; exact h44 (UInt8.toNat_inj.1 (by show c.toNat = 44; omega))
                  cases f with
                  | false =>
                    rw [lsT_bad hbl h44] at hr2
                    have HF : Hid (listT (L s) = ⟨[], false, k + j, 81⟩) := listT_bad HNS.out (HLS.out.trans hr2.symm)
                    clear hr2 hbl HG h44
                    go_wp2_with fail
                    all_goals (try (exfalso; omega))
                    refine (blank6_any c _).mono ?_; rintro e w' ⟨rfl, rfl⟩
                    rw [HBL2.out]
                    go_wp2_with fail
                    all_goals (try (exfalso; omega))
                    (try rw [Exit.noGoto_ret])
                    refine bodyPost_ret (results4 rfl _ _ _) rfl ?_
                    exact ⟨by have h := listRes_no (T := tRT) (B := w.heap.size) (w := wq) HF.out; rw [Int.natCast_add] at h; exact h, hB.out⟩
                  | true =>
                    have RD := Lib.hid (fun wx => trread_any (bs T) j wx (by rw [szT]; omega) (by rw [szT]; omega))
                    rw [L_bs] at RD
                    have hul : (T.drop j).length = T.length - j := List.length_drop
                    have hrn := rdT_le (T.drop j)
                    rw [hul] at hrn
                    obtain ⟨rr, hrr⟩ := name_it (rdT (T.drop j))
                    rw [hrr.out] at RD hrn
                    rw [← HG.out] at hr2
                    obtain ⟨⟨tw, tx⟩, n, ok⟩ := rr
                    simp only at hrn
                    have hrr2 := hrr.out
                    unfold rrdV encT at RD
                    obtain ⟨X, hX⟩ := name_it (bs tx)
                    simp only [hX.out] at RD
                    obtain ⟨q, hqn⟩ : ∃ q : Nat, q = j + n := ⟨_, rfl⟩
                    rw [← hqn] at RD
                    have HQN := Lib.hid hqn
                    have hq1 : j ≤ q := by omega
                    have hq2 : q ≤ T.length := by omega
                    cases ok with
                    | false =>
                      by_cases hnl : q = T.length
                      · have hnl2 : n = T.length - j := by omega
                        rw [HG.out] at hr2 hrr2 hul
                        rw [lsT_over hbl h44 hrr2 (by rw [hul]; exact hnl2)] at hr2
                        have HF : Hid (listT (L s) = ⟨[], false, s.size, 81⟩) := by unfold Hid; rw [← HLL.out]; exact listT_over HNS.out (HLS.out.trans hr2.symm)
                        have dsum : ((q : Int) == (T.length : Int)) = true := by simp; omega
                        clear hr2 hbl HG h44 hrr2 hul hrr hnl2 hqn
                        go_wp2_with fail
                        all_goals (try (exfalso; omega))
                        refine (blank6_any c _).mono ?_; rintro e w' ⟨rfl, rfl⟩
                        rw [HBL2.out]
                        go_wp2_with fail
                        all_goals (try (exfalso; omega))
                        refine (RD.out _).mono ?_; rintro e w5 ⟨rfl, b5⟩
                        have B5 := Lib.hid (hB.out.trans (b5.mono hB.out.size))
                        clear b5
                        go_wp2_with fail
                        all_goals (try (exfalso; omega))
                        (try rw [Exit.noGoto_ret])
                        refine bodyPost_ret (results4 rfl _ _ _) rfl ?_
                        exact ⟨listRes_no HF.out, B5.out.alloc B5.out.size _⟩
                      · have hnl2 : n ≠ T.length - j := by omega
                        rw [HG.out] at hr2 hrr2 hul
                        rw [lsT_wrong hbl h44 hrr2 (by rw [hul]; exact hnl2)] at hr2
                        have HF : Hid (listT (L s) = ⟨[], false, k + q, 81⟩) := by unfold Hid; rw [HQN.out, ← Nat.add_assoc]; exact listT_bad HNS.out (HLS.out.trans hr2.symm)
                        have dsum : ((q : Int) == (T.length : Int)) = false := by simp; omega
                        clear hr2 hbl HG h44 hrr2 hul hrr hnl2 hqn
                        go_wp2_with fail
                        all_goals (try (exfalso; omega))
                        refine (blank6_any c _).mono ?_; rintro e w' ⟨rfl, rfl⟩
                        rw [HBL2.out]
                        go_wp2_with fail
                        all_goals (try (exfalso; omega))
                        refine (RD.out _).mono ?_; rintro e w5 ⟨rfl, b5⟩
                        have B5 := Lib.hid (hB.out.trans (b5.mono hB.out.size))
                        clear b5
                        go_wp2_with fail
                        all_goals (try (exfalso; omega))
                        (try rw [Exit.noGoto_ret])
                        refine bodyPost_ret (results4 rfl _ _ _) rfl ?_
                        exact ⟨by have h := listRes_no (T := tRT) (B := w.heap.size) (w := w5.alloc (.cells #[.bool tw, .string X] tRT)) HF.out; rw [Int.natCast_add] at h; exact h, B5.out.alloc B5.out.size _⟩
                    | true =>
                      have hn2 := rdT_pos (T.drop j) (by rw [hrr2])
                      rw [hrr2] at hn2
                      simp only at hn2
                      rw [HG.out] at hr2 hrr2
                      rw [lsT_read hbl h44 hrr2, ← HG.out, List.drop_drop, Nat.add_assoc, ← hqn] at hr2
                      have HR2 := Lib.hid hr2
                      have hjq : j + 2 ≤ q := by omega
                      clear hr2 hbl HG h44 hrr2 hul hrr hqn
                      go_wp2_with fail
                      all_goals (try (exfalso; omega))
                      refine (blank6_any c _).mono ?_; rintro e w' ⟨rfl, rfl⟩
                      rw [HBL2.out]
                      go_wp2_with fail
                      all_goals (try (exfalso; omega))
                      refine (RD.out _).mono ?_; rintro e w5 ⟨rfl, b5⟩
                      have B5 := Lib.hid (hB.out.trans (b5.mono hB.out.size))
                      have O5 := Lib.hid (row_next hO.out b5)
                      have O6 : Hid ((w5.alloc (.cells #[.bool tw, .string X] tRT)).ownsRow w.heap.size tRT 2 (.slice lp acc.length lc) acc.length (rowTg acc)) := O5.out.alloc _
                      have B6 : Hid (Below w.heap.size w (w5.alloc (.cells #[.bool tw, .string X] tRT))) := B5.out.alloc B5.out.size _
                      clear b5 O5 B5
                      go_wp2_with (at_builtin; refine appendC rfl _ _ 88 rfl w.heap.size tRT i0 (.agg #[.bool false, .string ⟨#[]⟩]) 2 24 Tryz.underlying88 hi hz0 hz1 hz2 rfl (by decide) O6.out rfl #[.bool tw, .string X] rfl (by intro u hu; simp only [List.mem_cons, List.not_mem_nil, or_false] at hu; rcases hu with rfl | rfl <;> rfl) rfl (by first | rfl | (simp; done)) ?_ ?_ ?_ ?_)
                      · unfold maxLen; omega
                      · omega
                      · exact B6.out.size
                      intro g7 c7 w7 hown7 b7
                      have O7 : Hid (w7.ownsRow w.heap.size tRT 2 (.slice (some ⟨g7, 0, none⟩) (acc.length + 1) c7) (acc ++ [(tw, tx)]).length (rowTg (acc ++ [(tw, tx)]))) := by
                        unfold Hid; rw [rowTg_snoc, List.length_append, List.length_singleton, hX.out]; exact hown7
                      have B7 := Lib.hid (B6.out.trans b7)
                      have LA : Hid ((acc ++ [(tw, tx)]).length ≤ q) := by unfold Hid; rw [List.length_append, List.length_singleton]; omega
                      clear hown7 b7 O6 B6
                      go_wp2_with fail
                      all_goals (try (exfalso; omega))
                      go_roundw
                      case rel => exact ⟨q, _, false, by omega, LA.out, rfl, rfl, O7, HR2, B7⟩
                      case measure => simp [intOf]; omega
            · obtain rfl : j = T.length := by omega
              have dj : decide (T.length < T.length) = false := decide_eq_false (by omega)
              have hr2 := hr.out
              rw [List.drop_length, lsT_nil] at hr2
              by_cases hac : acc = []
              · rw [if_pos hac] at hr2
                have HF : Hid (listT (L s) = ⟨[], false, s.size, 81⟩) := by unfold Hid; rw [← HLL.out]; exact listT_over HNS.out (HLS.out.trans hr2.symm)
                subst hac
                clear hr2 hr
                go_wp2_with fail
                all_goals (try (exfalso; omega))
                (try rw [Exit.noGoto_ret])
                refine bodyPost_ret (results4 rfl _ _ _) rfl ?_
                exact ⟨listRes_no HF.out, hB.out⟩
              · rw [if_neg hac] at hr2
                have HF : Hid (listT (L s) = ⟨acc, false, 0, 0⟩) := listT_good HNS.out (HLS.out.trans hr2.symm)
                have hal : 0 < acc.length := List.length_pos_iff.2 hac
                have dal : ((acc.length : Int) == 0) = false := by rw [beq_eq_false_iff_ne]; omega
                clear hr2 hr hac
                go_wp2_with fail
                all_goals (try (exfalso; omega))
                (try rw [Exit.noGoto_ret])
                refine bodyPost_ret (results4 rfl _ _ _) rfl ?_
                exact ⟨listRes_yes HF.out hO.out, hB.out⟩
end Go.Proofs.YtjalfddedikibaaGreatDoor
