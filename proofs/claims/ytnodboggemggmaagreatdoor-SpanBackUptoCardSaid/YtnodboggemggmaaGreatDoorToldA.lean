/- Contract of the program's Told: what a content range says. -/
import Derived.Test.YtnodboggemggmaaGreatDoorToldD
namespace Go.Proofs.YtnodboggemggmaaGreatDoor
open Go Go.RowKit
set_option maxHeartbeats 2000000

set_option maxHeartbeats 8000000 in
set_option maxRecDepth 100000 in
theorem told_any (s : ByteArray) (w : World) (hE : EnvP w) (hs : s.size ≤ 1099511627) :
    Calls Tryz.prog 52 #[.string s] w fun e w' => e = .returned (toldV (toldM (L s))) ∧ Below w.heap.size w w' := by
  obtain ⟨V, hV⟩ := name_it (toldV (toldM (L s)))
  rw [hV.out]
  have hEa := Lib.hid (hE.alloc (.cells #[.int .i64 0, .int .i64 0] 38))
  clear hE
  have hLs := L_length s
  have hm : Hid (V = toldV (toldM (L s))) := hV.out.symm
  unfold toldM at hm
  have hrl : (restL (L s)).length ≤ s.size := by unfold restL; split; (· rw [List.length_drop]; omega); (· omega)
  obtain ⟨r, hr⟩ := name_it (restL (L s))
  rw [hr.out] at hm hrl
  have hwl := cutA_le 47 r
  have htl := cutZ_le 47 r
  have hstar : cutA 47 r = [42] → (idx 45 (cutA 47 r)).isSome = false := fun h => by rw [h]; rfl
  obtain ⟨x, hx⟩ := name_it (cutA 47 r)
  obtain ⟨t, ht⟩ := name_it (cutZ 47 r)
  obtain ⟨f, hf⟩ := name_it (idx 47 r).isSome
  rw [hx.out] at hm hwl hstar
  rw [ht.out] at hm htl
  rw [hf.out] at hm
  have hal := cutA_le 45 x
  have hzl := cutZ_le 45 x
  obtain ⟨a, ha⟩ := name_it (cutA 45 x)
  obtain ⟨z, hz⟩ := name_it (cutZ 45 x)
  obtain ⟨d, hd⟩ := name_it (idx 45 x).isSome
  rw [ha.out] at hm hal
  rw [hz.out] at hm hzl
  rw [hd.out] at hm hstar
  have bt := strN_bd t
  have ba := strN_bd a
  have bz := strN_bd z
  have hts : t = [42] → strB t = false := fun h => by rw [h]; exact strB_star
  obtain ⟨nt, hnt⟩ := name_it (strN t)
  obtain ⟨na, hna⟩ := name_it (strN a)
  obtain ⟨nz, hnz⟩ := name_it (strN z)
  obtain ⟨kt, hkt⟩ := name_it (strB t)
  obtain ⟨ka, hka⟩ := name_it (strB a)
  obtain ⟨kz, hkz⟩ := name_it (strB z)
  rw [hnt.out] at hm bt
  rw [hna.out] at hm ba
  rw [hnz.out] at hm bz
  rw [hkt.out] at hm hts
  rw [hka.out, hkz.out] at hm
  have hst2 : ¬ (x = [42] ∧ d = true) := fun h => by rw [hstar h.1] at h; exact absurd h.2 (by decide)
  have hts2 : ¬ (t = [42] ∧ kt = true) := fun h => by rw [hts h.1] at h; exact absurd h.2 (by decide)
  obtain ⟨p, hp⟩ := name_it (decide ((L s).take 6 = byW))
  rw [hp.out] at hm
  clear hV
  have e1 : (bs x).toList = x := by rw [toList_L, L_bs]
  have e2 : (bs t).toList = t := by rw [toList_L, L_bs]
  clear hstar hts
  by_cases hpf : p = true ∧ f = true
  · obtain ⟨h1, h2⟩ := hpf
    rw [if_neg (by simp [h1, h2])] at hm
    subst h1 h2
    go_enter Tryz.func52, Tryz.ntmps52
    go_wp2_with fail
    refine (cutPre_any s _).mono ?_; rintro e w1 ⟨rfl, hb1⟩
    rw [hr.out, hp.out]
    have H1 := Lib.hid (hEa.out.next hb1)
    go_wp2_with fail
    refine (cut_any 47 (bs r) _ H1.out.env (by rw [size_bs]; omega)).mono ?_; rintro e w2 ⟨rfl, hb2⟩
    rw [L_bs, hx.out, ht.out, hf.out]
    have H2 := Lib.hid (H1.out.next hb2)
    have hbb := hb1.trans (hb2.mono hb1.size)
    clear hb1 hb2
    go_wp2_with fail
    all_goals (try (exfalso; omega))
    refine (exact_any (bs t) _ H2.out (by rw [size_bs]; unfold maxLen; omega)).mono ?_; rintro e w3 ⟨rfl, hb3⟩
    rw [L_bs, hnt.out, hkt.out]
    have H3 := Lib.hid (H2.out.next hb3)
    have hbb := hbb.trans (hb3.mono hbb.size)
    clear hb3
    by_cases hx1 : x = [42]
    · subst hx1
      by_cases hk : kt = true
      · have hv : Hid (V = toldV (0, 0, nt, 0)) := by unfold Hid; rw [hm.out, if_pos ⟨rfl, hk⟩]
        clear hm
        have x2 : ((bs [42]).toList == [42]) = true := by rw [e1]; simp
        subst hk
        obtain ⟨f1, f2, f3, f4⟩ := box_facts hbb
        clear hbb
        go_wp2_with fail
        all_goals (try (exfalso; omega))
        all_goals (try (exfalso; first | exact absurd (eq_of_beq (a := t) (b := [42]) (by assumption)) ht1 | exact absurd (show (bs [42]).toList = [42] by rw [toList_L, L_bs]) (by assumption)))
        all_goals
          refine bodyPost_ret (v := .tuple #[.agg #[.int .i64 (0), .int .i64 (0)], .int .i64 (nt), .int .i64 (0)]) ?_ rfl ⟨by rw [hv.out]; rfl, ?_⟩
          · simp [results, Tryz.results52, go_sem, f1] <;> omega
          · exact (f4.setCell (p := ⟨_, 0, none⟩) (Nat.le_refl _) _).setCell (p := ⟨_, 1, none⟩) (Nat.le_refl _) _
      · have hd0 : d = false := by cases d; rfl; exact absurd ⟨rfl, rfl⟩ hst2
        have hv : Hid (V = toldV (0, 0, 0, 90)) := by unfold Hid; rw [hm.out, if_neg (fun h => hk h.2), if_pos (Or.inl hd0)]
        clear hm
        have hk0 := Bool.eq_false_iff.2 hk
        have x2 : ((bs [42]).toList == [42]) = true := by rw [e1]; simp
        subst hd0 hk0
        clear hk hst2 hts2
        go_wp2_with fail
        all_goals (try (exfalso; omega))
        refine (cut_any 45 (bs [42]) _ H3.out.env (by rw [size_bs]; omega)).mono ?_; rintro e w4 ⟨rfl, hb4⟩
        rw [L_bs, ha.out, hz.out, hd.out]
        have H4 := Lib.hid (H3.out.next hb4)
        have hbb := hbb.trans (hb4.mono hbb.size)
        clear hb4
        go_wp2_with fail
        all_goals (try (exfalso; omega))
        refine (exact_any (bs a) _ H4.out (by rw [size_bs]; unfold maxLen; omega)).mono ?_; rintro e w5 ⟨rfl, hb5⟩
        rw [L_bs, hna.out, hka.out]
        have H5 := Lib.hid (H4.out.next hb5)
        have hbb := hbb.trans (hb5.mono hbb.size)
        clear hb5
        go_wp2_with fail
        all_goals (try (exfalso; omega))
        refine (exact_any (bs z) _ H5.out (by rw [size_bs]; unfold maxLen; omega)).mono ?_; rintro e w6 ⟨rfl, hb6⟩
        rw [L_bs, hnz.out, hkz.out]
        have hbb := hbb.trans (hb6.mono hbb.size)
        clear hb6
        obtain ⟨f1, f2, f3, f4⟩ := box_facts hbb
        clear hbb
        go_wp2_with fail
        all_goals (try (exfalso; omega))
        all_goals (try (exfalso; first | exact absurd (eq_of_beq (a := t) (b := [42]) (by assumption)) ht1 | exact absurd (show (bs [42]).toList = [42] by rw [toList_L, L_bs]) (by assumption)))
        all_goals
          refine bodyPost_ret (v := .tuple #[.agg #[.int .i64 (0), .int .i64 (0)], .int .i64 (0), .int .i64 (90)]) ?_ rfl ⟨by rw [hv.out]; rfl, ?_⟩
          · simp [results, Tryz.results52, go_sem, f1] <;> omega
          · exact (f4.setCell (p := ⟨_, 0, none⟩) (Nat.le_refl _) _).setCell (p := ⟨_, 1, none⟩) (Nat.le_refl _) _
    · rw [if_neg (fun h => hx1 h.1)] at hm
      have x2 : ((bs x).toList == [42]) = false := by rw [e1]; simp [hx1]
      have HX1 := Lib.hid hx1
      clear hx1
      clear hst2
      go_wp2_with fail
      all_goals (try (exfalso; omega))
      refine (cut_any 45 (bs x) _ H3.out.env (by rw [size_bs]; omega)).mono ?_; rintro e w4 ⟨rfl, hb4⟩
      rw [L_bs, ha.out, hz.out, hd.out]
      have H4 := Lib.hid (H3.out.next hb4)
      have hbb := hbb.trans (hb4.mono hbb.size)
      clear hb4
      go_wp2_with fail
      all_goals (try (exfalso; omega))
      refine (exact_any (bs a) _ H4.out (by rw [size_bs]; unfold maxLen; omega)).mono ?_; rintro e w5 ⟨rfl, hb5⟩
      rw [L_bs, hna.out, hka.out]
      have H5 := Lib.hid (H4.out.next hb5)
      have hbb := hbb.trans (hb5.mono hbb.size)
      clear hb5
      go_wp2_with fail
      all_goals (try (exfalso; omega))
      refine (exact_any (bs z) _ H5.out (by rw [size_bs]; unfold maxLen; omega)).mono ?_; rintro e w6 ⟨rfl, hb6⟩
      rw [L_bs, hnz.out, hkz.out]
      have hbb := hbb.trans (hb6.mono hbb.size)
      clear hb6
      have hcases : d = false ∨ (d = true ∧ ka = false) ∨ (d = true ∧ ka = true ∧ kz = false) ∨ (d = true ∧ ka = true ∧ kz = true ∧ na > nz) ∨ (d = true ∧ ka = true ∧ kz = true ∧ na ≤ nz ∧ t ≠ [42] ∧ kt = false)
          ∨ (d = true ∧ ka = true ∧ kz = true ∧ na ≤ nz ∧ t ≠ [42] ∧ kt = true ∧ nz ≥ nt) ∨ (d = true ∧ ka = true ∧ kz = true ∧ na ≤ nz ∧ t ≠ [42] ∧ kt = true ∧ nz < nt) ∨ (d = true ∧ ka = true ∧ kz = true ∧ na ≤ nz ∧ t = [42] ∧ kt = false) := by
        have o1 : na > nz ∨ na ≤ nz := by omega
        have o2 : nz ≥ nt ∨ nz < nt := by omega
        exact told_cases o1 o2 hts2
      clear hts2
      rcases hcases with h4 | ⟨h4, h5⟩ | ⟨h4, h5, h6⟩ | ⟨h4, h5, h6, h7⟩ | ⟨h4, h5, h6, h7, ht1, h3⟩ | ⟨h4, h5, h6, h7, ht1, h3, h8⟩ | ⟨h4, h5, h6, h7, ht1, h3, h8⟩ | ⟨h4, h5, h6, h7, ht1, h3⟩
      · have hv : Hid (V = toldV (0, 0, 0, 90)) := by unfold Hid; rw [hm.out, if_pos (Or.inl h4)]
        clear hm
        subst h4
        obtain ⟨f1, f2, f3, f4⟩ := box_facts hbb
        clear hbb
        go_wp2_with fail
        all_goals (try (exfalso; omega))
        all_goals (try (exfalso; first | exact absurd (eq_of_beq (a := t) (b := [42]) (by assumption)) ht1 | exact absurd (show (bs [42]).toList = [42] by rw [toList_L, L_bs]) (by assumption)))
        all_goals
          refine bodyPost_ret (v := .tuple #[.agg #[.int .i64 (0), .int .i64 (0)], .int .i64 (0), .int .i64 (90)]) ?_ rfl ⟨by rw [hv.out]; rfl, ?_⟩
          · simp [results, Tryz.results52, go_sem, f1] <;> omega
          · exact (f4.setCell (p := ⟨_, 0, none⟩) (Nat.le_refl _) _).setCell (p := ⟨_, 1, none⟩) (Nat.le_refl _) _
      · have hv : Hid (V = toldV (0, 0, 0, 90)) := by unfold Hid; rw [hm.out, if_pos (Or.inr (Or.inl h5))]
        clear hm
        subst h4 h5
        obtain ⟨f1, f2, f3, f4⟩ := box_facts hbb
        clear hbb
        go_wp2_with fail
        all_goals (try (exfalso; omega))
        all_goals (try (exfalso; first | exact absurd (eq_of_beq (a := t) (b := [42]) (by assumption)) ht1 | exact absurd (show (bs [42]).toList = [42] by rw [toList_L, L_bs]) (by assumption)))
        all_goals
          refine bodyPost_ret (v := .tuple #[.agg #[.int .i64 (0), .int .i64 (0)], .int .i64 (0), .int .i64 (90)]) ?_ rfl ⟨by rw [hv.out]; rfl, ?_⟩
          · simp [results, Tryz.results52, go_sem, f1] <;> omega
          · exact (f4.setCell (p := ⟨_, 0, none⟩) (Nat.le_refl _) _).setCell (p := ⟨_, 1, none⟩) (Nat.le_refl _) _
      · have hv : Hid (V = toldV (0, 0, 0, 90)) := by unfold Hid; rw [hm.out, if_pos (Or.inr (Or.inr (Or.inl h6)))]
        clear hm
        subst h4 h5 h6
        obtain ⟨f1, f2, f3, f4⟩ := box_facts hbb
        clear hbb
        go_wp2_with fail
        all_goals (try (exfalso; omega))
        all_goals (try (exfalso; first | exact absurd (eq_of_beq (a := t) (b := [42]) (by assumption)) ht1 | exact absurd (show (bs [42]).toList = [42] by rw [toList_L, L_bs]) (by assumption)))
        all_goals
          refine bodyPost_ret (v := .tuple #[.agg #[.int .i64 (0), .int .i64 (0)], .int .i64 (0), .int .i64 (90)]) ?_ rfl ⟨by rw [hv.out]; rfl, ?_⟩
          · simp [results, Tryz.results52, go_sem, f1] <;> omega
          · exact (f4.setCell (p := ⟨_, 0, none⟩) (Nat.le_refl _) _).setCell (p := ⟨_, 1, none⟩) (Nat.le_refl _) _
      · have hv : Hid (V = toldV (0, 0, 0, 90)) := by unfold Hid; rw [hm.out, if_pos (Or.inr (Or.inr (Or.inr (Or.inl h7))))]
        clear hm
        subst h4 h5 h6
        obtain ⟨f1, f2, f3, f4⟩ := box_facts hbb
        clear hbb
        go_wp2_with fail
        all_goals (try (exfalso; omega))
        all_goals (try (exfalso; first | exact absurd (eq_of_beq (a := t) (b := [42]) (by assumption)) ht1 | exact absurd (show (bs [42]).toList = [42] by rw [toList_L, L_bs]) (by assumption)))
        all_goals
          refine bodyPost_ret (v := .tuple #[.agg #[.int .i64 (0), .int .i64 (0)], .int .i64 (0), .int .i64 (90)]) ?_ rfl ⟨by rw [hv.out]; rfl, ?_⟩
          · simp [results, Tryz.results52, go_sem, f1] <;> omega
          · exact (f4.setCell (p := ⟨_, 0, none⟩) (Nat.le_refl _) _).setCell (p := ⟨_, 1, none⟩) (Nat.le_refl _) _
      · have hv : Hid (V = toldV (0, 0, 0, 90)) := by unfold Hid; rw [hm.out, if_pos (Or.inr (Or.inr (Or.inr (Or.inr ⟨ht1, Or.inl h3⟩))))]
        clear hm
        have t2 : ((bs t).toList == [42]) = false := by rw [e2]; simp [ht1]
        have t4 : ((bs t).toList != [42]) = true := by rw [e2]; simp [ht1]
        subst h3 h4 h5 h6
        obtain ⟨f1, f2, f3, f4⟩ := box_facts hbb
        clear hbb
        go_wp2_with fail
        all_goals (try (exfalso; omega))
        all_goals (try (exfalso; first | exact absurd (eq_of_beq (a := t) (b := [42]) (by assumption)) ht1 | exact absurd (show (bs [42]).toList = [42] by rw [toList_L, L_bs]) (by assumption)))
        all_goals
          refine bodyPost_ret (v := .tuple #[.agg #[.int .i64 (0), .int .i64 (0)], .int .i64 (0), .int .i64 (90)]) ?_ rfl ⟨by rw [hv.out]; rfl, ?_⟩
          · simp [results, Tryz.results52, go_sem, f1] <;> omega
          · exact (f4.setCell (p := ⟨_, 0, none⟩) (Nat.le_refl _) _).setCell (p := ⟨_, 1, none⟩) (Nat.le_refl _) _
      · have hv : Hid (V = toldV (0, 0, 0, 90)) := by unfold Hid; rw [hm.out, if_pos (Or.inr (Or.inr (Or.inr (Or.inr ⟨ht1, Or.inr h8⟩))))]
        clear hm
        have t2 : ((bs t).toList == [42]) = false := by rw [e2]; simp [ht1]
        have t4 : ((bs t).toList != [42]) = true := by rw [e2]; simp [ht1]
        subst h3 h4 h5 h6
        obtain ⟨f1, f2, f3, f4⟩ := box_facts hbb
        clear hbb
        go_wp2_with fail
        all_goals (try (exfalso; omega))
        all_goals (try (exfalso; first | exact absurd (eq_of_beq (a := t) (b := [42]) (by assumption)) ht1 | exact absurd (show (bs [42]).toList = [42] by rw [toList_L, L_bs]) (by assumption)))
        all_goals
          refine bodyPost_ret (v := .tuple #[.agg #[.int .i64 (0), .int .i64 (0)], .int .i64 (0), .int .i64 (90)]) ?_ rfl ⟨by rw [hv.out]; rfl, ?_⟩
          · simp [results, Tryz.results52, go_sem, f1] <;> omega
          · exact (f4.setCell (p := ⟨_, 0, none⟩) (Nat.le_refl _) _).setCell (p := ⟨_, 1, none⟩) (Nat.le_refl _) _
      · have hv : Hid (V = toldV (na, nz + 1, nt, 0)) := by unfold Hid; rw [hm.out, if_neg (told_ok h4 h5 h6 h7 (fun _ => ⟨h3, h8⟩)), if_neg ht1]
        clear hm
        have t2 : ((bs t).toList == [42]) = false := by rw [e2]; simp [ht1]
        have t4 : ((bs t).toList != [42]) = true := by rw [e2]; simp [ht1]
        subst h3 h4 h5 h6
        obtain ⟨f1, f2, f3, f4⟩ := box_facts hbb
        clear hbb
        go_wp2_with fail
        all_goals (try (exfalso; omega))
        all_goals (try (exfalso; first | exact absurd (eq_of_beq (a := t) (b := [42]) (by assumption)) ht1 | exact absurd (show (bs [42]).toList = [42] by rw [toList_L, L_bs]) (by assumption)))
        all_goals
          refine bodyPost_ret (v := .tuple #[.agg #[.int .i64 (na), .int .i64 (nz + 1)], .int .i64 (nt), .int .i64 (0)]) ?_ rfl ⟨by rw [hv.out]; rfl, ?_⟩
          · simp [results, Tryz.results52, go_sem, f1] <;> omega
          · exact (f4.setCell (p := ⟨_, 0, none⟩) (Nat.le_refl _) _).setCell (p := ⟨_, 1, none⟩) (Nat.le_refl _) _
      · have hv : Hid (V = toldV (na, nz + 1, -1, 0)) := by unfold Hid; rw [hm.out, if_neg (told_ok h4 h5 h6 h7 (fun h => absurd ht1 h)), if_pos ht1]
        clear hm
        have t2 : ((bs t).toList == [42]) = true := by rw [e2]; simp [ht1]
        have t4 : ((bs t).toList != [42]) = false := by rw [e2]; simp [ht1]
        subst h3 h4 h5 h6
        obtain ⟨f1, f2, f3, f4⟩ := box_facts hbb
        clear hbb
        go_wp2_with fail
        all_goals (try (exfalso; omega))
        all_goals (try (exfalso; first | exact absurd (eq_of_beq (a := t) (b := [42]) (by assumption)) ht1 | exact absurd (show (bs [42]).toList = [42] by rw [toList_L, L_bs]) (by assumption)))
        all_goals
          refine bodyPost_ret (v := .tuple #[.agg #[.int .i64 (na), .int .i64 (nz + 1)], .int .i64 (-1), .int .i64 (0)]) ?_ rfl ⟨by rw [hv.out]; rfl, ?_⟩
          · simp [results, Tryz.results52, go_sem, f1] <;> omega
          · exact (f4.setCell (p := ⟨_, 0, none⟩) (Nat.le_refl _) _).setCell (p := ⟨_, 1, none⟩) (Nat.le_refl _) _
  · have hv : Hid (V = toldV (0, 0, 0, 90)) := by
      unfold Hid; rw [hm.out, if_pos]
      cases p
      · exact Or.inl rfl
      · cases f
        · exact Or.inr rfl
        · exact absurd ⟨rfl, rfl⟩ hpf
    clear hm hst2 hts2
    cases p
    · go_enter Tryz.func52, Tryz.ntmps52
      go_wp2_with fail
      refine (cutPre_any s _).mono ?_; rintro e w1 ⟨rfl, hb1⟩
      rw [hr.out, hp.out]
      have H1 := Lib.hid (hEa.out.next hb1)
      go_wp2_with fail
      refine (cut_any 47 (bs r) _ H1.out.env (by rw [size_bs]; omega)).mono ?_; rintro e w2 ⟨rfl, hb2⟩
      rw [L_bs, hx.out, ht.out, hf.out]
      have H2 := Lib.hid (H1.out.next hb2)
      have hbb := hb1.trans (hb2.mono hb1.size)
      clear hb1 hb2
      obtain ⟨f1, f2, f3, f4⟩ := box_facts hbb
      clear hbb
      go_wp2_with fail
      all_goals (try (exfalso; omega))
      all_goals
        refine bodyPost_ret (v := .tuple #[.agg #[.int .i64 (0), .int .i64 (0)], .int .i64 (0), .int .i64 (90)]) ?_ rfl ⟨by rw [hv.out]; rfl, ?_⟩
        · simp [results, Tryz.results52, go_sem, f1] <;> omega
        · exact (f4.setCell (p := ⟨_, 0, none⟩) (Nat.le_refl _) _).setCell (p := ⟨_, 1, none⟩) (Nat.le_refl _) _
    · cases f
      · go_enter Tryz.func52, Tryz.ntmps52
        go_wp2_with fail
        refine (cutPre_any s _).mono ?_; rintro e w1 ⟨rfl, hb1⟩
        rw [hr.out, hp.out]
        have H1 := Lib.hid (hEa.out.next hb1)
        go_wp2_with fail
        refine (cut_any 47 (bs r) _ H1.out.env (by rw [size_bs]; omega)).mono ?_; rintro e w2 ⟨rfl, hb2⟩
        rw [L_bs, hx.out, ht.out, hf.out]
        have H2 := Lib.hid (H1.out.next hb2)
        have hbb := hb1.trans (hb2.mono hb1.size)
        clear hb1 hb2
        obtain ⟨f1, f2, f3, f4⟩ := box_facts hbb
        clear hbb
        go_wp2_with fail
        all_goals (try (exfalso; omega))
        all_goals (try (exfalso; first | exact absurd (eq_of_beq (a := t) (b := [42]) (by assumption)) ht1 | exact absurd (show (bs [42]).toList = [42] by rw [toList_L, L_bs]) (by assumption)))
        all_goals
          refine bodyPost_ret (v := .tuple #[.agg #[.int .i64 (0), .int .i64 (0)], .int .i64 (0), .int .i64 (90)]) ?_ rfl ⟨by rw [hv.out]; rfl, ?_⟩
          · simp [results, Tryz.results52, go_sem, f1] <;> omega
          · exact (f4.setCell (p := ⟨_, 0, none⟩) (Nat.le_refl _) _).setCell (p := ⟨_, 1, none⟩) (Nat.le_refl _) _
      · exact absurd ⟨rfl, rfl⟩ hpf
end Go.Proofs.YtnodboggemggmaaGreatDoor

