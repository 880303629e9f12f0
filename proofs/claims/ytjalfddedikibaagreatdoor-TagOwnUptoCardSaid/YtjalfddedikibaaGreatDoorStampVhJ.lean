/- Contract of stamp's Parse: the moment that a text says. -/
import Derived.Test.YtjalfddedikibaaGreatDoorStampVgJ
namespace Go.Proofs.YtjalfddedikibaaGreatDoor
open Go Go.RowKit
set_option maxHeartbeats 4000000

theorem pieces_any (f : Nat) (hf : f < 3) (w : World) : Calls Tryz.prog 82 #[.int .i64 f] w (Pieced w f) := by
  have : f = 0 ∨ f = 1 ∨ f = 2 := by omega
  rcases this with rfl | rfl | rfl
  · exact pieces0_any w
  · exact pieces1_any w
  · exact pieces2_any w
theorem momY_form (st : Stm.St) (f : Nat) (y : Int) : ((momY st f y).e ≠ 0 → (momY st f y).m = 0 ∧ (momY st f y).form = 0) ∧ ((momY st f y).e = 0 → (momY st f y).form = f ∧ (momY st f y).at_ = 0) := by
  unfold momY
  repeat' split
  all_goals simp
theorem run_one (s : List UInt8) (p : Stm.Pc) (st : Stm.St) : Stm.runP s [p] st = Stm.stepP s p st := by
  rw [Stm.runP_cons]
  by_cases h : (Stm.stepP s p st).2 = true
  · rw [if_pos h]; show ((Stm.stepP s p st).1, true) = _; rw [← h]
  · rw [if_neg h]
theorem run_flat {s : List UInt8} {pss : List (List Stm.Pc)} {k : Nat} (h : k < pss.length) (st : Stm.St) : Stm.runP s (pss.drop k).flatten st = if (Stm.runP s pss[k] st).2 then Stm.runP s (pss.drop (k + 1)).flatten (Stm.runP s pss[k] st).1 else Stm.runP s pss[k] st := by
  rw [List.drop_eq_getElem_cons h, List.flatten_cons, Stm.runP_append]
theorem took_run {w0 w' : World} {b : Nat} {s : ByteArray} {r r' : Stm.St × Bool} {e : Ending} (h : Took w0 b s r e w') (hr : r = r') : Took w0 b s r' e w' := hr ▸ h
theorem gotD_of (f : Nat) (hf : f < 5) : (gotOf f = 109 ∨ gotOf f = 111 ∨ gotOf f = 112 ∨ gotOf f = 114 ∨ gotOf f = 115) ∧ GotD (gotOf f) f := by
  have : f = 0 ∨ f = 1 ∨ f = 2 ∨ f = 3 ∨ f = 4 := by omega
  rcases this with rfl | rfl | rfl | rfl | rfl
  · exact ⟨Or.inl rfl, gotD0⟩
  · exact ⟨Or.inr (Or.inl rfl), gotD1⟩
  · exact ⟨Or.inr (Or.inr (Or.inl rfl)), gotD2⟩
  · exact ⟨Or.inr (Or.inr (Or.inr (Or.inl rfl))), gotD3⟩
  · exact ⟨Or.inr (Or.inr (Or.inr (Or.inr rfl))), gotD4⟩

set_option maxRecDepth 100000 in
theorem parse_any (s : ByteArray) (now : Int) (w : World) (hE : EnvS w) (hs : s.size ≤ 1099511627) :
    Calls Tryz.prog 54 #[.string s, .int .i64 now] w fun e w' => e = .returned (parseV (Stm.parseP (L s) (isMom now) (nowY now))) ∧ Below w.heap.size w w' := by
  obtain ⟨P, hP0⟩ := name_it (parseV (Stm.parseP (L s) (isMom now) (nowY now)))
  rw [hP0.out]
  have HE := Lib.hid hE
  clear hE
  have hmm : decide (-62135596800 ≤ now ∧ now ≤ 253402300799) = isMom now := rfl
  by_cases hn : isMom now = true
  · have hf3 := Stm.formOf_lt (L s)
    have hrg := fun h1 h2 => Stm.range_of (s := L s) (form := Stm.formOf (L s)) hf3 h1 h2
    have hP1 : Hid (parseV (let r := Stm.runP (L s) (Stm.pcs (Stm.formOf (L s))) Stm.st0
      if r.2 = false ∨ r.1.at_ < (L s).length then ⟨0, 0, 44, r.1.at_⟩ else Stm.momentOf r.1 (Stm.formOf (L s)) (nowY now)) = P) := by
      rw [← hP0.out]; unfold Hid Stm.parseP; rw [hn]; rfl
    clear hP0
    obtain ⟨f, hf⟩ := name_it (Stm.formOf (L s))
    rw [hf.out] at hf3 hrg hP1
    obtain ⟨R, hR⟩ := name_it (Stm.runP (L s) (Stm.pcs f) Stm.st0)
    rw [hR.out] at hrg hP1
    rw [L_length] at hrg hP1
    have HRG := Lib.hid hrg
    clear hrg
    have A0 : Hid (CellsAt (w.alloc (.cells #[.string s, .int .i64 0, .int .i64 0, .int .i64 0, .int .i64 0, .int .i64 0, .int .i64 0, .int .i64 0, .int .i64 0, .int .i64 0, .int .i64 0, .int .i64 0] 131)) w.heap.size (rdCells s Stm.st0)) := CellsAt.first w (rdCells s Stm.st0) 131
    have B0 : Below w.heap.size w (w.alloc (.cells #[.string s, .int .i64 0, .int .i64 0, .int .i64 0, .int .i64 0, .int .i64 0, .int .i64 0, .int .i64 0, .int .i64 0, .int .i64 0, .int .i64 0, .int .i64 0] 131)) := (Below.refl _ _).alloc (Nat.le_refl _) _
    have E0 : Hid (EnvS (w.alloc (.cells #[.string s, .int .i64 0, .int .i64 0, .int .i64 0, .int .i64 0, .int .i64 0, .int .i64 0, .int .i64 0, .int .i64 0, .int .i64 0, .int .i64 0, .int .i64 0] 131))) := HE.out.alloc _
    go_enter Tryz.func54, Tryz.ntmps54
    go_wp2_with fail
    go_step3
    go_wp2_with fail
    refine (ismoment_any _ _).mono ?_; rintro e w1 ⟨rfl, rfl⟩
    rw [hmm, hn]
    clear hmm
    go_wp2_with fail
    refine (formOf_any s _ HE.out hs).mono ?_; rintro e w1 ⟨rfl, rfl⟩
    rw [hf.out]
    go_wp2_with fail
    generalize w.alloc _ = wa at A0 B0 E0 ⊢
    go_step3
    go_wp2_with fail
    have hrd := HE.out.n
    have H6 := Lib.hid hrd
    clear hrd HE
    refine (pieces_any f hf3 _).mono ?_
    rintro e w2 ⟨g, cap, xs, pss, rfl, hx20, hga, hgl, hcell, hpcs, hflat, hb2⟩
    have A2 := Lib.hid (Rd.start (A0.out.next hb2))
    have E2 := Lib.hid (E0.out.next hb2)
    have B2 := B0.trans (hb2.mono B0.size)
    have hbl : w.heap.size < wa.heap.size := A0.out.lt
    have HC := Lib.hid hcell
    have HP := Lib.hid hpcs
    have hR2 : Hid (Stm.runP (L s) (pss.drop 0).flatten Stm.st0 = R) := by rw [List.drop_zero, hflat]; exact hR
    have HPL := Lib.hid hpcs.get.1
    have hgb : g ≠ w.heap.size := by omega
    clear hcell hpcs hflat hR A0 E0 hb2 B0
    go_wp2_with fail
    go_loopw [10, 12, 27] (fun ok _ i wq => ∃ (k : Nat) (st : Stm.St), k ≤ xs.length ∧ i = .int .i64 k ∧ ok = .bool true ∧ st.at_ ≤ s.size ∧ Hid (Stm.runP (L s) (pss.drop k).flatten st = R) ∧ Hid (Rd w2 wq w.heap.size s st)) (fun _ _ i _ => xs.length - (intOf i).toNat)
    case atStart => exact ⟨0, Stm.st0, Nat.zero_le _, rfl, rfl, Nat.zero_le _, hR2, A2⟩
    case round =>
      obtain ⟨k, st, hk, rfl, rfl, hat, hrun, A⟩ := hrel
      by_cases hlt : k < xs.length
      · have hkp : k < pss.length := by rw [← HPL.out]; exact hlt
        have hcl := (A.out.but.cell g k hgb hgl).trans (HC.out k hlt)
        have hpo := (HP.out.get.2 k hlt hkp)
        have hst := Lib.hid (run_flat (s := L s) hkp st)
        obtain ⟨x, hx⟩ := name_it xs[k]
        obtain ⟨ps, hps⟩ := name_it pss[k]
        rw [hx.out] at hcl hpo
        rw [hps.out] at hst hpo
        obtain ⟨r, hr⟩ := name_it (Stm.runP (L s) ps st)
        rw [hr.out] at hst
        have hrle : r.1.at_ ≤ s.size := by
          have := run_le (L s) ps st (by rw [L_length]; exact hat)
          rw [hr.out, L_length] at this; exact this
        have hpo' := hpo.map (fun c v k => k.but A.out.but hbl)
        have E3 := Lib.hid (E2.out.but A.out.but A.out.below H6.out)
        have HPO := Lib.hid hpo'
        have hcc := A.out.cells
        have HCC := Lib.hid hcc
        clear hpo hpo' hx hps hcc
        have hki : (k : Int) < xs.length := by omega
        have hpo := HPO.out
        clear HPO
        cases hpo with
        | text c t h ht =>
          have hrr := hr
          have hcb := h.cell
          go_wp2_with fail
          all_goals (try (exfalso; omega))
          refine (text_any w.heap.size c s t st _ HCC.out h.cell (by have := h.lo; omega) h.lt hs ht hat).mono ?_; rintro e w3 ht
          have ht := took_run ht (show _ = r from hrr.out)
          obtain ⟨rfl, hR3⟩ := ht
          have A3 := Lib.hid (A.out.trans hR3)
          clear hR3
          obtain ⟨q, ok⟩ := r
          dsimp only at hrle hst
          cases ok
          · have hRq : Hid (R = (q, false)) := by rw [← hrun.out, hst.out]; rfl
            have hf : Hid (P = .tuple #[.int .i64 0, .int .i64 0, .int .i64 44, .int .i64 q.at_]) := by rw [← hP1.out, hRq.out]; rfl
            have hs1 := A3.out.at
            have B3 := B2.trans A3.out.below
            clear hP1 hst hrun hr hrr HRG hRq
            go_wp2_with fail
            go_quiet (fail)
            go_wp2_with fail
            (try rw [Exit.noGoto_ret])
            refine bodyPost_ret (results_tmp4 rfl _ _ _) rfl ?_
            exact ⟨by rw [hf.out]; rfl, below_drewN B3 _⟩
          · have hnx : Hid (Stm.runP (L s) (pss.drop (k + 1)).flatten q = R) := by rw [← hrun.out, hst.out]; rfl
            clear hst hrun hr hrr
            go_wp2_with fail
            go_roundw
            case rel => exact ⟨k + 1, q, by omega, by go_num, rfl, hrle, hnx, A3⟩
            case measure => simp [intOf]; omega
        | dig c1 c2 c3 n f2 bl h1 h2 h3 hf2 hn4 =>
          have hrr : Hid (Stm.stepP (L s) (.dig n bl f2) st = r) := by rw [← run_one]; exact hr
          go_wp2_with fail
          all_goals (try (exfalso; omega))
          refine (digits_any (gotOf f2) f2 (gotD_of f2 hf2).1 (gotD_of f2 hf2).2 w.heap.size c1 c2 c3 n bl s st _ HCC.out h1.cell h2.cell h3.cell (by have := h1.lo; omega) h1.lt (by have := h2.lo; omega) h2.lt (by have := h3.lo; omega) h3.lt hs hn4 hat).mono ?_; rintro e w3 ht
          have ht := took_run ht (show _ = r from hrr.out)
          obtain ⟨rfl, hR3⟩ := ht
          have A3 := Lib.hid (A.out.trans hR3)
          clear hR3
          obtain ⟨q, ok⟩ := r
          dsimp only at hrle hst
          cases ok
          · have hRq : Hid (R = (q, false)) := by rw [← hrun.out, hst.out]; rfl
            have hf : Hid (P = .tuple #[.int .i64 0, .int .i64 0, .int .i64 44, .int .i64 q.at_]) := by rw [← hP1.out, hRq.out]; rfl
            have hs1 := A3.out.at
            have B3 := B2.trans A3.out.below
            clear hP1 hst hrun hr hrr HRG hRq
            go_wp2_with fail
            go_quiet (fail)
            go_wp2_with fail
            (try rw [Exit.noGoto_ret])
            refine bodyPost_ret (results_tmp4 rfl _ _ _) rfl ?_
            exact ⟨by rw [hf.out]; rfl, below_drewN B3 _⟩
          · have hnx : Hid (Stm.runP (L s) (pss.drop (k + 1)).flatten q = R) := by rw [← hrun.out, hst.out]; rfl
            clear hst hrun hr hrr
            go_wp2_with fail
            go_roundw
            case rel => exact ⟨k + 1, q, by omega, by go_num, rfl, hrle, hnx, A3⟩
            case measure => simp [intOf]; omega
        | name0 c1 c2 c3 h1 h2 h3 =>
          have hrr : Hid (Stm.stepP (L s) (.name 0) st = r) := by rw [← run_one]; exact hr
          go_wp2_with fail
          all_goals (try (exfalso; omega))
          refine (name0_any w.heap.size c1 c2 c3 s st _ E3.out HCC.out H6.out h1.cell h2.cell h3.cell (by have := h1.lo; omega) h1.lt (by have := h2.lo; omega) h2.lt (by have := h3.lo; omega) h3.lt hs hat).mono ?_; rintro e w3 ht
          have ht := took_run ht (show _ = r from hrr.out)
          obtain ⟨rfl, hR3⟩ := ht
          have A3 := Lib.hid (A.out.trans hR3)
          clear hR3
          obtain ⟨q, ok⟩ := r
          dsimp only at hrle hst
          cases ok
          · have hRq : Hid (R = (q, false)) := by rw [← hrun.out, hst.out]; rfl
            have hf : Hid (P = .tuple #[.int .i64 0, .int .i64 0, .int .i64 44, .int .i64 q.at_]) := by rw [← hP1.out, hRq.out]; rfl
            have hs1 := A3.out.at
            have B3 := B2.trans A3.out.below
            clear hP1 hst hrun hr hrr HRG hRq
            go_wp2_with fail
            go_quiet (fail)
            go_wp2_with fail
            (try rw [Exit.noGoto_ret])
            refine bodyPost_ret (results_tmp4 rfl _ _ _) rfl ?_
            exact ⟨by rw [hf.out]; rfl, below_drewN B3 _⟩
          · have hnx : Hid (Stm.runP (L s) (pss.drop (k + 1)).flatten q = R) := by rw [← hrun.out, hst.out]; rfl
            clear hst hrun hr hrr
            go_wp2_with fail
            go_roundw
            case rel => exact ⟨k + 1, q, by omega, by go_num, rfl, hrle, hnx, A3⟩
            case measure => simp [intOf]; omega
        | name1 c1 c2 c3 h1 h2 h3 =>
          have hrr : Hid (Stm.stepP (L s) (.name 1) st = r) := by rw [← run_one]; exact hr
          go_wp2_with fail
          all_goals (try (exfalso; omega))
          refine (name1_any w.heap.size c1 c2 c3 s st _ E3.out HCC.out H6.out h1.cell h2.cell h3.cell (by have := h1.lo; omega) h1.lt (by have := h2.lo; omega) h2.lt (by have := h3.lo; omega) h3.lt hs hat).mono ?_; rintro e w3 ht
          have ht := took_run ht (show _ = r from hrr.out)
          obtain ⟨rfl, hR3⟩ := ht
          have A3 := Lib.hid (A.out.trans hR3)
          clear hR3
          obtain ⟨q, ok⟩ := r
          dsimp only at hrle hst
          cases ok
          · have hRq : Hid (R = (q, false)) := by rw [← hrun.out, hst.out]; rfl
            have hf : Hid (P = .tuple #[.int .i64 0, .int .i64 0, .int .i64 44, .int .i64 q.at_]) := by rw [← hP1.out, hRq.out]; rfl
            have hs1 := A3.out.at
            have B3 := B2.trans A3.out.below
            clear hP1 hst hrun hr hrr HRG hRq
            go_wp2_with fail
            go_quiet (fail)
            go_wp2_with fail
            (try rw [Exit.noGoto_ret])
            refine bodyPost_ret (results_tmp4 rfl _ _ _) rfl ?_
            exact ⟨by rw [hf.out]; rfl, below_drewN B3 _⟩
          · have hnx : Hid (Stm.runP (L s) (pss.drop (k + 1)).flatten q = R) := by rw [← hrun.out, hst.out]; rfl
            clear hst hrun hr hrr
            go_wp2_with fail
            go_roundw
            case rel => exact ⟨k + 1, q, by omega, by go_num, rfl, hrle, hnx, A3⟩
            case measure => simp [intOf]; omega
        | name2 c1 c2 c3 h1 h2 h3 =>
          have hrr : Hid (Stm.stepP (L s) (.name 2) st = r) := by rw [← run_one]; exact hr
          go_wp2_with fail
          all_goals (try (exfalso; omega))
          refine (name2_any w.heap.size c1 c2 c3 s st _ E3.out HCC.out H6.out h1.cell h2.cell h3.cell (by have := h1.lo; omega) h1.lt (by have := h2.lo; omega) h2.lt (by have := h3.lo; omega) h3.lt hs hat).mono ?_; rintro e w3 ht
          have ht := took_run ht (show _ = r from hrr.out)
          obtain ⟨rfl, hR3⟩ := ht
          have A3 := Lib.hid (A.out.trans hR3)
          clear hR3
          obtain ⟨q, ok⟩ := r
          dsimp only at hrle hst
          cases ok
          · have hRq : Hid (R = (q, false)) := by rw [← hrun.out, hst.out]; rfl
            have hf : Hid (P = .tuple #[.int .i64 0, .int .i64 0, .int .i64 44, .int .i64 q.at_]) := by rw [← hP1.out, hRq.out]; rfl
            have hs1 := A3.out.at
            have B3 := B2.trans A3.out.below
            clear hP1 hst hrun hr hrr HRG hRq
            go_wp2_with fail
            go_quiet (fail)
            go_wp2_with fail
            (try rw [Exit.noGoto_ret])
            refine bodyPost_ret (results_tmp4 rfl _ _ _) rfl ?_
            exact ⟨by rw [hf.out]; rfl, below_drewN B3 _⟩
          · have hnx : Hid (Stm.runP (L s) (pss.drop (k + 1)).flatten q = R) := by rw [← hrun.out, hst.out]; rfl
            clear hst hrun hr hrr
            go_wp2_with fail
            go_roundw
            case rel => exact ⟨k + 1, q, by omega, by go_num, rfl, hrle, hnx, A3⟩
            case measure => simp [intOf]; omega
      · obtain rfl : k = xs.length := by omega
        have hRq : Hid (R = (st, true)) := by
          rw [← hrun.out, HPL.out, List.drop_length]; rfl
        have hs1 := A.out.at
        have B3 := B2.trans A.out.below
        rw [hRq.out] at hP1 HRG
        clear hrun
        by_cases hend : st.at_ < s.size
        · have hendi : (st.at_ : Int) < s.size := by omega
          have hf : Hid (P = .tuple #[.int .i64 0, .int .i64 0, .int .i64 44, .int .i64 st.at_]) := by rw [← hP1.out, if_pos (Or.inr hend)]; rfl
          clear hP1 HRG hRq
          go_wp2_with fail
          go_quiet (fail)
          go_wp2_with fail
          (try rw [Exit.noGoto_ret])
          refine bodyPost_ret (results_tmp4 rfl _ _ _) rfl ?_
          exact ⟨by rw [hf.out]; rfl, below_drewN B3 _⟩
        · have hendi : ¬ (st.at_ : Int) < s.size := by omega
          have hrange : Stm.Range f st := HRG.out rfl (by show s.size ≤ st.at_; omega)
          have hmo := moment_any w.heap.size s st f now wr hn A.out.cells hrange (by omega)
          have hP2 : Hid (parseV (Stm.momentOf st f (nowY now)) = P) := by rw [← hP1.out, if_neg (show ¬ (true = false ∨ st.at_ < s.size) by simp; omega)]; rfl
          have hmf := momY_form st f (if f = 1 then Stm.nearY st.yr (nowY now - 49) else st.yr)
          rw [← momentOf_eq] at hmf
          obtain ⟨q, hq⟩ := name_it (Stm.momentOf st f (nowY now))
          rw [hq.out] at hmo hP2 hmf
          obtain ⟨qm, qf, qe, qa⟩ := q
          dsimp only at hmf
          have HMF := Lib.hid hmf
          have HMO := Lib.hid hmo
          clear hmf hmo hP1 HRG hRq hrange hq
          go_wp2_with fail
          refine HMO.out.mono ?_; rintro e w3 ⟨rfl, hb3⟩
          unfold momV
          have B4 := B3.trans hb3
          by_cases hqe : qe = 0
          · have h1 := HMF.out.2 hqe
            obtain ⟨rfl, rfl⟩ := h1
            subst hqe
            have hf : Hid (P = .tuple #[.int .i64 qm, .int .i64 f, .int .i64 0, .int .i64 0]) := by rw [← hP2.out]; rfl
            clear hP2 HMF HMO
            go_wp2_with fail
            (try rw [Exit.noGoto_ret])
            refine bodyPost_ret (results_tmp4 rfl _ _ _) rfl ?_
            exact ⟨by rw [hf.out]; rfl, B4⟩
          · have h1 := HMF.out.1 hqe
            obtain ⟨rfl, rfl⟩ := h1
            have q1 : (qe == 0) = false := by simp [hqe]
            have q2 : (qe != 0) = true := by simp [hqe]
            have hf : Hid (P = .tuple #[.int .i64 0, .int .i64 0, .int .i64 qe, .int .i64 qa]) := by rw [← hP2.out]; rfl
            clear hP2 HMF HMO
            go_wp2_with fail
            (try rw [Exit.noGoto_ret])
            refine bodyPost_ret (results_tmp4 rfl _ _ _) rfl ?_
            exact ⟨by rw [hf.out]; rfl, B4⟩
  · have hn' : isMom now = false := by simpa using hn
    have hf : Hid (P = .tuple #[.int .i64 0, .int .i64 0, .int .i64 40, .int .i64 0]) := by rw [← hP0.out]; unfold Hid Stm.parseP; rw [hn', if_pos rfl]; rfl
    clear hP0 hn
    go_enter Tryz.func54, Tryz.ntmps54
    go_wp2_with fail
    go_step3
    go_wp2_with fail
    refine (ismoment_any _ _).mono ?_; rintro e w1 ⟨rfl, rfl⟩
    rw [hmm, hn']
    go_wp2_with fail
    (try rw [Exit.noGoto_ret])
    refine bodyPost_ret (results_tmp4 rfl _ _ _) rfl ?_
    exact ⟨by rw [hf.out]; rfl, Below.refl _ _⟩
end Go.Proofs.YtjalfddedikibaaGreatDoor
