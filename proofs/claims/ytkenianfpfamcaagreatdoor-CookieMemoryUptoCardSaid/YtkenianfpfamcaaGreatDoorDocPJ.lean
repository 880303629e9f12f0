/- Contract of the document's Set. -/
import Derived.Test.YtkenianfpfamcaaGreatDoorDocPaJ
namespace Go.Proofs.YtkenianfpfamcaaGreatDoor
open Go Go.RowKit
set_option maxHeartbeats 64000000

set_option maxRecDepth 100000 in
theorem rset_any (most : Nat) (p : Option Addr) (cap : Nat) (l : List Kp) (c : SetC) (host path : List UInt8) (sec : Bool) (now : Int) (w : World) (hL : KpL w p l) (hcap : l.length ≤ cap) (hm1 : 1 ≤ most) (hm2 : most ≤ 3000) (hlm : l.length ≤ most) (hk : (l.map Kp.key).Nodup)
    (hf : FitC c) (hh : host.length ≤ 1073741824) (hp : path.length ≤ 1073741824) :
    Calls Tryz.prog 25 #[.agg #[.int .i64 most, .slice p l.length cap], .agg (cellsS c).toArray, .agg #[.string (bs host), .string (bs path), .bool sec, .int .i64 now]] w fun e w' =>
      (∃ q cap', e = .returned (.tuple #[.agg #[.int .i64 most, .slice q (setJ most l c host path sec now).length cap'], .int .i64 (failC l c host path sec now)]) ∧ (setJ most l c host path sec now).length ≤ cap' ∧ KpL w' q (setJ most l c host path sec now) ∧ (q = p ∧ setJ most l c host path sec now = l ∨ ∀ g off, q = some ⟨g, off, none⟩ → w.heap.size ≤ g)) ∧ Below w.heap.size w w' := by
  obtain ⟨F1, F2, F3, F4, F5⟩ := four (w := w) [.int .i64 most, .slice p l.length cap] (cellsS c) [.string (bs host), .string (bs path), .bool sec, .int .i64 now] [.int .i64 0, .slice none 0 0] tRJ tRS tLn tRJ
  have R1 := Lib.hid (show Rs w w.heap.size most p l.length cap c host path sec now _ from ⟨F1, F2, F3, F4, F5, Nat.le_refl _⟩)
  clear F1 F2 F3 F4 F5
  have HL := Lib.hid hL
  have HCP := Lib.hid hcap
  have HK := Lib.hid hk
  have HF := Lib.hid hf
  have HH := Lib.hid hh
  have HP := Lib.hid hp
  have HLM := Lib.hid hlm
  have HM := Lib.hid (fun wx => rmoment_any now wx)
  have HW := Lib.hid (fun wx => rwrong_any c wx hf)
  have HBG := Lib.hid (fun wx => rbelongs_any (bs host) (bs c.domain) wx (by rw [size_bs]; exact hh) (by rw [size_bs]; exact hf.d))
  have HDP := Lib.hid (fun wx => rdefpath_any (bs path) wx (by rw [size_bs]; exact hp))
  simp only [L_bs] at HBG HDP
  have hbad := @setJ_bad most l c host path sec now
  obtain ⟨V, hV⟩ := name_it (failC l c host path sec now)
  obtain ⟨R, hR⟩ := name_it (setJ most l c host path sec now)
  have HV : Hid (failC l c host path sec now = V) := hV
  have HRR : Hid (setJ most l c host path sec now = R) := hR
  rw [hV.out, hR.out]
  rw [hV.out, hR.out] at hbad
  have SB := Lib.hid hbad
  clear hL hcap hk hf hh hp hbad hV hR
  obtain ⟨nm, v, pp, d, ma, hm, ex, he, sc, ht, sm⟩ := c
  unfold cellsS at HW R1 ⊢
  simp only at HW R1 HBG HDP ⊢
  go_enter Tryz.func25, Tryz.ntmps25
  go_upto_region 1 with fail
  obtain ⟨b, hb⟩ := name_it w.heap.size
  rw [hb.out] at R1 ⊢
  have R1 : Hid (Rs w b most p l.length cap (⟨nm, v, pp, d, ma, hm, ex, he, sc, ht, sm⟩ : SetC) host path sec now _) := R1
  generalize World.alloc _ _ = w1 at R1 ⊢
  have hm0 : ((most : Int) == 0) = false := by rw [beq_eq_false_iff_ne]; omega
  have x3 : w1.cell? ⟨b + 2, 3, none⟩ = some (.int .i64 now) := R1.out.kx.at 3 _ rfl
  have j0 := R1.out.kj.at 0 _ rfl
  cases hmo : isMom now with
  | false =>
    rw [hmo] at HM
    have HV2 : Hid (V = 1) := by rw [← HV.out]; exact fail_mom hmo
    have HR2 : Hid (R = l) := SB.out (by rw [HV2.out]; decide)
    clear hmo
    have j0 := R1.out.kj.at 0 _ rfl
    have j1 := R1.out.kj.at 1 _ rfl
    have z0 := R1.out.kr.at 0 _ rfl
    have z1 := R1.out.kr.at 1 _ rfl
    have y0 := R1.out.kr.free 0
    have y1 := R1.out.kr.free 1
    obtain ⟨KE0, DE0⟩ := R1.out.ret
    have KE := Lib.hid KE0
    have DE := Lib.hid DE0
    clear KE0 DE0
    unfold putAll putAll putAll at KE DE
    have f0 := KE.out.at 0 _ rfl
    have f1 := KE.out.at 1 _ rfl
    simp only [Nat.zero_add] at DE f0 f1
    have LL := Lib.hid (HL.out.next DE.out)
    go_wp2_with fail
    refine (HM.out _).mono ?_; rintro e w' ⟨rfl, rfl⟩
    go_wp2_with fail
    refine bodyPost_ret (v := .tuple #[.agg #[.int .i64 most, .slice p l.length cap], .int .i64 (1)]) (by simp [results, Tryz.results25, go_sem, f0, f1]) rfl ?_
    refine ⟨⟨p, cap, ?_⟩, DE.out⟩
    rw [HV2.out, HR2.out]
    exact ⟨rfl, HCP.out, LL.out, Or.inl ⟨rfl, rfl⟩⟩
  | true =>
    rw [hmo] at HM
    have d0 : w1.cell? ⟨b + 1, 0, none⟩ = some (.string (bs nm)) := R1.out.kc.at 0 _ rfl
    have d1 : w1.cell? ⟨b + 1, 1, none⟩ = some (.string (bs v)) := R1.out.kc.at 1 _ rfl
    have d2 : w1.cell? ⟨b + 1, 2, none⟩ = some (.string (bs pp)) := R1.out.kc.at 2 _ rfl
    have d3 : w1.cell? ⟨b + 1, 3, none⟩ = some (.string (bs d)) := R1.out.kc.at 3 _ rfl
    have d4 : w1.cell? ⟨b + 1, 4, none⟩ = some (.int .i64 ma) := R1.out.kc.at 4 _ rfl
    have d5 : w1.cell? ⟨b + 1, 5, none⟩ = some (.bool hm) := R1.out.kc.at 5 _ rfl
    have d6 : w1.cell? ⟨b + 1, 6, none⟩ = some (.int .i64 ex) := R1.out.kc.at 6 _ rfl
    have d7 : w1.cell? ⟨b + 1, 7, none⟩ = some (.bool he) := R1.out.kc.at 7 _ rfl
    have d8 : w1.cell? ⟨b + 1, 8, none⟩ = some (.bool sc) := R1.out.kc.at 8 _ rfl
    have d9 : w1.cell? ⟨b + 1, 9, none⟩ = some (.bool ht) := R1.out.kc.at 9 _ rfl
    have d10 : w1.cell? ⟨b + 1, 10, none⟩ = some (.int .i64 sm) := R1.out.kc.at 10 _ rfl
    go_wp2_with fail
    refine (HM.out _).mono ?_; rintro e w' ⟨rfl, rfl⟩
    go_wp2_with fail
    refine (HW.out _).mono ?_; rintro e w2 ⟨rfl, hb2⟩
    have R2 := Lib.hid (R1.out.next hb2)
    clear R1 hb2 HM HW x3 j0 hm0 d0 d1 d2 d3 d4 d5 d6 d7 d8 d9 d10
    by_cases hw0 : wrongC (⟨nm, v, pp, d, ma, hm, ex, he, sc, ht, sm⟩ : SetC) = 0
    rotate_left
    · have HV2 : Hid (V = wrongC (⟨nm, v, pp, d, ma, hm, ex, he, sc, ht, sm⟩ : SetC)) := by rw [← HV.out]; exact fail_wrong hmo hw0
      have HR2 : Hid (R = l) := SB.out (by rw [HV2.out]; exact hw0)
      have hw1 : (wrongC (⟨nm, v, pp, d, ma, hm, ex, he, sc, ht, sm⟩ : SetC) == 0) = false := by simpa using hw0
      obtain ⟨WC, hWC⟩ := name_it (wrongC (⟨nm, v, pp, d, ma, hm, ex, he, sc, ht, sm⟩ : SetC))
      rw [hWC.out] at hw1 HV2 ⊢
      clear hmo hw0 hWC
      have j0 := R2.out.kj.at 0 _ rfl
      have j1 := R2.out.kj.at 1 _ rfl
      have z0 := R2.out.kr.at 0 _ rfl
      have z1 := R2.out.kr.at 1 _ rfl
      have y0 := R2.out.kr.free 0
      have y1 := R2.out.kr.free 1
      obtain ⟨KE0, DE0⟩ := R2.out.ret
      have KE := Lib.hid KE0
      have DE := Lib.hid DE0
      clear KE0 DE0
      unfold putAll putAll putAll at KE DE
      have f0 := KE.out.at 0 _ rfl
      have f1 := KE.out.at 1 _ rfl
      simp only [Nat.zero_add] at DE f0 f1
      have LL := Lib.hid (HL.out.next DE.out)
      go_wp2_with fail
      refine bodyPost_ret (v := .tuple #[.agg #[.int .i64 most, .slice p l.length cap], .int .i64 (WC)]) (by simp [results, Tryz.results25, go_sem, f0, f1]) rfl ?_
      refine ⟨⟨p, cap, ?_⟩, DE.out⟩
      rw [HV2.out, HR2.out]
      exact ⟨rfl, HCP.out, LL.out, Or.inl ⟨rfl, rfl⟩⟩
    · rw [hw0]
      have WP := wrong_parts hw0
      have d0 : w2.cell? ⟨b + 1, 0, none⟩ = some (.string (bs nm)) := R2.out.kc.at 0 _ rfl
      have d1 : w2.cell? ⟨b + 1, 1, none⟩ = some (.string (bs v)) := R2.out.kc.at 1 _ rfl
      have d2 : w2.cell? ⟨b + 1, 2, none⟩ = some (.string (bs pp)) := R2.out.kc.at 2 _ rfl
      have d3 : w2.cell? ⟨b + 1, 3, none⟩ = some (.string (bs d)) := R2.out.kc.at 3 _ rfl
      have d4 : w2.cell? ⟨b + 1, 4, none⟩ = some (.int .i64 ma) := R2.out.kc.at 4 _ rfl
      have d5 : w2.cell? ⟨b + 1, 5, none⟩ = some (.bool hm) := R2.out.kc.at 5 _ rfl
      have d6 : w2.cell? ⟨b + 1, 6, none⟩ = some (.int .i64 ex) := R2.out.kc.at 6 _ rfl
      have d7 : w2.cell? ⟨b + 1, 7, none⟩ = some (.bool he) := R2.out.kc.at 7 _ rfl
      have d8 : w2.cell? ⟨b + 1, 8, none⟩ = some (.bool sc) := R2.out.kc.at 8 _ rfl
      have d9 : w2.cell? ⟨b + 1, 9, none⟩ = some (.bool ht) := R2.out.kc.at 9 _ rfl
      have d10 : w2.cell? ⟨b + 1, 10, none⟩ = some (.int .i64 sm) := R2.out.kc.at 10 _ rfl
      have KN := Lib.hid (CellsAt.first w2 (cellsP ⟨(⟨nm, v, pp, d, ma, hm, ex, he, sc, ht, sm⟩ : SetC), d, pp, 0, false⟩) tKp)
      have R3 := Lib.hid (R2.out.next (below_put2 (w := w2) (cs := (cellsP ⟨(⟨nm, v, pp, d, ma, hm, ex, he, sc, ht, sm⟩ : SetC), d, pp, 0, false⟩).toArray) (T := tKp)))
      have HB4 : Hid (b + 4 ≤ w2.heap.size) := by have := R2.out.kr.lt; unfold Hid; omega
      have KN : Hid (CellsAt (w2.alloc (.cells #[.string (bs nm), .string (bs v), .string (bs pp), .string (bs d), .int .i64 ma, .bool hm, .int .i64 ex, .bool he, .bool sc, .bool ht, .int .i64 sm, .string (bs d), .string (bs pp), .int .i64 0, .bool false] tKp)) w2.heap.size (cellsP ⟨(⟨nm, v, pp, d, ma, hm, ex, he, sc, ht, sm⟩ : SetC), d, pp, 0, false⟩)) := KN
      have R3 : Hid (Rs w b most p l.length cap (⟨nm, v, pp, d, ma, hm, ex, he, sc, ht, sm⟩ : SetC) host path sec now (w2.alloc (.cells #[.string (bs nm), .string (bs v), .string (bs pp), .string (bs d), .int .i64 ma, .bool hm, .int .i64 ex, .bool he, .bool sc, .bool ht, .int .i64 sm, .string (bs d), .string (bs pp), .int .i64 0, .bool false] tKp))) := R3
      go_upto_region 7 with fail
      clear R2 d0 d1 d2 d3 d4 d5 d6 d7 d8 d9 d10
      obtain ⟨m, hm'⟩ := name_it w2.heap.size
      rw [hm'.out] at KN HB4 ⊢
      clear hm'
      generalize w2.alloc _ = w3 at KN R3 ⊢
      have d3 : w3.cell? ⟨b + 1, 3, none⟩ = some (.string (bs d)) := R3.out.kc.at 3 _ rfl
      have x0 : w3.cell? ⟨b + 2, 0, none⟩ = some (.string (bs host)) := R3.out.kx.at 0 _ rfl
      have HDE : Hid ((bs d).toList.isEmpty = decide (d = [])) := by have := str_empty (bs d); rw [L_bs] at this; exact this
      have HPE : Hid ((bs pp).toList.isEmpty = decide (pp = [])) := by have := str_empty (bs pp); rw [L_bs] at this; exact this
      by_cases hfo : d ≠ [] ∧ belongsC host d = false
      ·
        have HV2 : Hid (V = 162) := by rw [← HV.out]; exact fail_foreign hmo hw0 hfo
        have HR2 : Hid (R = l) := SB.out (by rw [HV2.out]; decide)
        have hd1 : (bs d).toList.isEmpty = false := by rw [HDE.out]; exact decide_eq_false hfo.1
        rw [hfo.2] at HBG
        clear hfo hmo hw0 KN
        have j0 := R3.out.kj.at 0 _ rfl
        have j1 := R3.out.kj.at 1 _ rfl
        have z0 := R3.out.kr.at 0 _ rfl
        have z1 := R3.out.kr.at 1 _ rfl
        have y0 := R3.out.kr.free 0
        have y1 := R3.out.kr.free 1
        obtain ⟨KE0, DE0⟩ := R3.out.ret
        have KE := Lib.hid KE0
        have DE := Lib.hid DE0
        clear KE0 DE0
        unfold putAll putAll putAll at KE DE
        have f0 := KE.out.at 0 _ rfl
        have f1 := KE.out.at 1 _ rfl
        simp only [Nat.zero_add] at DE f0 f1
        have LL := Lib.hid (HL.out.next DE.out)
        go_wp2_with fail
        refine (HBG.out _).mono ?_; rintro e w' ⟨rfl, rfl⟩
        go_wp2_with fail
        refine bodyPost_ret (v := .tuple #[.agg #[.int .i64 most, .slice p l.length cap], .int .i64 (162)]) (by simp [results, Tryz.results25, go_sem, f0, f1]) rfl ?_
        refine ⟨⟨p, cap, ?_⟩, DE.out⟩
        rw [HV2.out, HR2.out]
        exact ⟨rfl, HCP.out, LL.out, Or.inl ⟨rfl, rfl⟩⟩
      · obtain ⟨dom, hdom⟩ := name_it (if d = [] then host else d)
        have HDM : Hid ((if d = [] then host else d) = dom) := hdom
        clear hdom
        go_upto_if 38 with fail
        go_cut [] (fun wx => Hid (CellsAt wx m (cellsP ⟨(⟨nm, v, pp, d, ma, hm, ex, he, sc, ht, sm⟩ : SetC), dom, pp, 0, false⟩)) ∧ Hid (Rs w b most p l.length cap (⟨nm, v, pp, d, ma, hm, ex, he, sc, ht, sm⟩ : SetC) host path sec now wx))
        case first =>
          by_cases hd : d = []
          · have hd1 : (bs d).toList.isEmpty = true := by rw [HDE.out]; exact decide_eq_true hd
            have hd2 : dom = host := by rw [← HDM.out, if_pos hd]
            have k11 : w3.cell? ⟨m, 11, none⟩ = some (.string (bs d)) := KN.out.at 11 _ rfl
            have y11 := KN.out.free 11
            have KN2 : Hid (CellsAt (w3.setCell ⟨m, 11, none⟩ (.string (bs host))) m (cellsP ⟨(⟨nm, v, pp, d, ma, hm, ex, he, sc, ht, sm⟩ : SetC), host, pp, 0, false⟩)) := KN.out.set 11 (by show 11 < 15; decide) _
            have R32 := Lib.hid (R3.out.set m 11 (.string (bs host)) HB4.out)
            subst hd2
            clear hd hfo
            go_wp2_with fail
            all_goals (try (exfalso; exact absurd (hd1.symm.trans (by assumption)) (by decide)))
            go_meet
            case rel => exact ⟨KN2, R32⟩
          · have hd1 : (bs d).toList.isEmpty = false := by rw [HDE.out]; exact decide_eq_false hd
            have hd2 : dom = d := by rw [← HDM.out, if_neg hd]
            have hbl : belongsC host d = true := by
              cases h : belongsC host d with
              | true => rfl
              | false => exact absurd ⟨hd, h⟩ hfo
            rw [hbl] at HBG
            subst hd2
            clear hd hfo hbl
            go_wp2_with fail
            all_goals (try (exfalso; exact absurd (hd1.symm.trans (by assumption)) (by decide)))
            refine (HBG.out _).mono ?_; rintro e w' ⟨rfl, rfl⟩
            go_wp2_with fail
            go_meet
            case rel => exact ⟨KN, R3⟩
        case rest =>
        obtain ⟨KN4, R4⟩ := hcut
        obtain ⟨w4, hw4⟩ : ∃ w4, w4 = wc := ⟨wc, rfl⟩
        subst hw4
        clear KN R3 HBG d3 x0
        have d2 : w4.cell? ⟨b + 1, 2, none⟩ = some (.string (bs pp)) := R4.out.kc.at 2 _ rfl
        have x1 : w4.cell? ⟨b + 2, 1, none⟩ = some (.string (bs path)) := R4.out.kx.at 1 _ rfl
        obtain ⟨kp, hkp⟩ := name_it (if pp = [] then defPathC path else pp)
        have HKP : Hid ((if pp = [] then defPathC path else pp) = kp) := hkp
        clear hkp
        go_upto_if 51 with fail
        go_cut [] (fun wx => Hid (CellsAt wx m (cellsP ⟨(⟨nm, v, pp, d, ma, hm, ex, he, sc, ht, sm⟩ : SetC), dom, kp, 0, false⟩)) ∧ Hid (Rs w b most p l.length cap (⟨nm, v, pp, d, ma, hm, ex, he, sc, ht, sm⟩ : SetC) host path sec now wx))
        case first =>
          by_cases hd : pp = []
          · have hd1 : (bs pp).toList.isEmpty = true := by rw [HPE.out]; exact decide_eq_true hd
            have hd2 : defPathC path = kp := by rw [← HKP.out, if_pos hd]
            have k12 : w4.cell? ⟨m, 12, none⟩ = some (.string (bs pp)) := KN4.out.at 12 _ rfl
            have y12 := KN4.out.free 12
            rw [hd2] at HDP
            have KN2 : Hid (CellsAt (w4.setCell ⟨m, 12, none⟩ (.string (bs kp))) m (cellsP ⟨(⟨nm, v, pp, d, ma, hm, ex, he, sc, ht, sm⟩ : SetC), dom, kp, 0, false⟩)) := KN4.out.set 12 (by show 12 < 15; decide) _
            have R32 := Lib.hid (R4.out.set m 12 (.string (bs kp)) HB4.out)
            clear hd hfo hd2
            go_wp2_with fail
            all_goals (try (exfalso; exact absurd (hd1.symm.trans (by assumption)) (by decide)))
            refine (HDP.out _).mono ?_; rintro e w' ⟨rfl, rfl⟩
            go_wp2_with fail
            go_meet
            case rel => exact ⟨KN2, R32⟩
          · have hd1 : (bs pp).toList.isEmpty = false := by rw [HPE.out]; exact decide_eq_false hd
            have hd2 : pp = kp := by rw [← HKP.out, if_neg hd]
            have KN2 : Hid (CellsAt w4 m (cellsP ⟨(⟨nm, v, pp, d, ma, hm, ex, he, sc, ht, sm⟩ : SetC), dom, kp, 0, false⟩)) := by unfold Hid; rw [← hd2]; rw [← hd2] at *; exact KN4.out
            clear hd hfo hd2
            go_wp2_with fail
            all_goals (try (exfalso; exact absurd (hd1.symm.trans (by assumption)) (by decide)))
            go_meet
            case rel => exact ⟨KN2, R4⟩
        case rest =>
        obtain ⟨KN5, R5⟩ := hcut
        obtain ⟨w5, hw5⟩ : ∃ w5, w5 = wc := ⟨wc, rfl⟩
        subst hw5
        clear KN4 R4 HDP d2 x1
        go_upto_region 13 with fail
        refine rset_t13 ?hK1 ?hK2 hm1 hm2 HLM HCP HK HL HB4 hmo hw0 hfo HDM HKP HV HRR SB R5 KN5 ?_
        case hK1 => assumption
        case hK2 => assumption
        intro d0 d1 d2 d8 d9 d10 d11 d12 d13 d14 d15 d16 d17 d18 d19 d20 d21 d22 d23 d24 d25 d26 d27 d28 d29 d30 d31 d32 d33 d34 d35 d36 d37 d38 d39 d40 d41 d42 d43 d44 d45 d46 d47 d48 d49 d50 d51 d52 d53 d54 d55 d56 d57 d58 d59 d60 d61 d62 d63 d64 d65 d66 d67 d68 d69 d70 d71 d72 d73 d74 d75 d76 d77 d78 d79 d80 d81 d82 d83 d84 d85 d86 d87 d88 d89 d90 d91 d92 d93 d94 d95 d96 d97 d98 d99 d100 d101 d102 d103 d104 d105 d106 d107 d108 d109 d110 d111 d112 d113 d114 d115 d116 d117 d118 d119 d120 d121 d122 d123 d124 d125 d126 d127 d128 d129 d130 d131 d132 d133 d134 d135 d136 d137 d138 d139 d140 d141 d142 d143 d144 d145 d146 d147 d148 d149 d150 d151 d152 d153 d154 d155 d156 d157 d158 d159 d160 d161 d162 d163 d164 d165 d166 d167 d168 d169 d170 d171 d172 d173 d174 d175 d176 d177 d178 d179 d180 d181 d182 d183 d184 d185 d186 d187 q9 cap9 w9 f0 f1 hc9 hL9 hg9 hb9
        refine bodyPost_ret (v := .tuple #[.agg #[.int .i64 most, .slice q9 R.length cap9], .int .i64 V]) (by simp [results, Tryz.results25, go_sem, f0, f1]) rfl ?_
        exact ⟨⟨q9, cap9, rfl, hc9, hL9, hg9⟩, hb9⟩
end Go.Proofs.YtkenianfpfamcaaGreatDoor
