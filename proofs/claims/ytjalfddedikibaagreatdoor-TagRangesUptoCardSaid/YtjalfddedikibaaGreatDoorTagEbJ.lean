/- Contract of the document's Ranged; TagRanges: the walk of the law. -/
import Derived.Test.YtjalfddedikibaaGreatDoorTagEaJ
namespace Go.Proofs.YtjalfddedikibaaGreatDoor
open Go Go.RowKit
set_option maxHeartbeats 8000000

set_option maxRecDepth 100000 in
theorem rranged_any (v : Value) (l : List Fd) (s : Sta) (now : Int) (w : World) (hv : FdSl w v l) (hl : fSum l ≤ 1048576) :
    Calls Tryz.prog 13 #[v, encSt s, .int .i64 now] w fun e w' => e = .returned (.bool (rangedT s now (valuesF l nmIR))) ∧ Below w.heap.size w w' := by
  obtain ⟨p0, cap0, hpv⟩ : ∃ p cap, v = .slice p l.length cap := by obtain ⟨p, cap, h, _⟩ := hv; exact ⟨p, cap, h⟩
  subst hpv
  have e1 : L ⟨#[73, 102, 45, 82, 97, 110, 103, 101]⟩ = nmIR := rfl
  have b0 : Below w.heap.size w (w.alloc (.cells (stateC s) tRSt)) := (Below.refl _ _).alloc (Nat.le_refl _) _
  have AL := Lib.hid (rall_any _ l ⟨#[73, 102, 45, 82, 97, 110, 103, 101]⟩ (w.alloc (.cells (stateC s) tRSt)) (hv.next b0) hl (by decide))
  rw [e1] at AL
  have DT := Lib.hid (fun W (h3 : FdSl W (.slice p0 l.length cap0) l) => rdate_any (.slice p0 l.length cap0) l ⟨#[73, 102, 45, 82, 97, 110, 103, 101]⟩ now W h3 hl (by decide))
  rw [e1] at DT
  have hvl := values_len l nmIR
  have hll := fSum_len l
  have hsz : ∀ x ∈ valuesF l nmIR, x.length + 2 ≤ fSum l := by
    intro x hx
    obtain ⟨k, hk, rfl⟩ := List.getElem_of_mem hx
    exact value_le l nmIR k hk
  obtain ⟨vs, hvs⟩ := name_it (valuesF l nmIR)
  rw [hvs.out] at AL DT hvl hsz ⊢
  have F0 := Lib.hid (hv.next b0)
  have M0 : Hid (Blk (w.alloc (.cells (stateC s) tRSt)) w.heap.size tRSt (stateC s)) := Blk.new w tRSt _
  have B0 := Lib.hid b0
  clear hv hvs e1 b0
  obtain ⟨sth, ⟨g1, g2⟩, stt, stm, std⟩ := s
  unfold encSt
  unfold stateC at AL F0 M0 B0
  simp only at AL F0 M0 B0 ⊢
  obtain ⟨Y, hY⟩ := name_it (bs g2)
  rw [hY.out] at AL F0 M0 B0 ⊢
  obtain ⟨R, hR⟩ := name_it (rangedT ⟨sth, (g1, g2), stt, stm, std⟩ now vs)
  rw [hR.out]
  have gY : Hid (g2 = L Y) := by unfold Hid; rw [← hY.out, L_bs]
  clear hY
  go_enter Tryz.func13, Tryz.ntmps13
  go_wp2_with fail
  obtain ⟨w0, hw0⟩ := name_it (w.alloc (.cells #[.bool sth, .bool g1, .string Y, .bool stt, .int .i64 stm, .bool std] tRSt))
  rw [hw0.out] at AL F0 M0 B0 ⊢
  obtain ⟨m0, hm0⟩ := name_it w.heap.size
  rw [hm0.out] at M0 ⊢
  clear hw0
  refine AL.out.mono ?_; rintro e w1 ⟨⟨v1, rfl, h1⟩, b1⟩
  have O1 := Lib.hid h1
  have M1 := Lib.hid (M0.out.below b1 M0.out.lt)
  have F1 := Lib.hid (F0.out.next b1)
  have B1 := Lib.hid (B0.out.trans (b1.mono B0.out.size))
  obtain ⟨sp, sc, rfl⟩ := row_slice h1
  clear h1 b1 AL M0 F0 B0
  match vs, hvl, hsz, O1, hR, DT with
  | [], _, _, O1, hR, DT =>
    have e0 : (([] : List Tx).length : Int) = 0 := rfl
    have hT : Hid (R = true) := hR.out.symm.trans rfl
    clear DT hR
    go_wp2_with fail
    all_goals (try (exfalso; omega))
    go_ret
    exact ⟨ret_bool (by rw [hT.out]), B1.out⟩
  | x :: y :: r, hvl, _, O1, hR, DT =>
    have e0 : (1 : Int) < ((x :: y :: r).length : Int) := by simp only [List.length_cons]; omega
    have e1 : (((x :: y :: r).length : Int) == 0) = false := by rw [beq_eq_false_iff_ne]; omega
    have hT : Hid (R = false) := hR.out.symm.trans rfl
    obtain ⟨n, hn⟩ := name_it (x :: y :: r).length
    rw [hn.out] at e0 e1 ⊢
    clear DT hR hvl
    go_wp2_with fail
    all_goals (try (exfalso; omega))
    go_ret
    exact ⟨ret_bool (by rw [hT.out]), B1.out⟩
  | [x], _, hsz, O1, hR, DT =>
    have hx := hsz x (by simp)
    obtain ⟨g, rfl⟩ : ∃ g, sp = some ⟨g, 0, none⟩ := by
      rcases O1.out.2 with ⟨_, h0⟩ | ⟨g, cap', cur, h, _⟩
      · simp at h0
      · injection h with h _ _; exact ⟨g, h⟩
    have c0 : w1.cell? ⟨g, 0, none⟩ = some (.string (bs x)) := (O1.out.cellAt 0 (by simp)).trans rfl
    have e0 : ([x].length : Int) = 1 := rfl
    have e2 : (([x].length : Int) == 0) = false := rfl
    have hHT : Hid (rangedT ⟨sth, (g1, g2), stt, stm, std⟩ now [x] = (sth && (if (parT (trim x)).2.2 = 0 then stt && strongT (parT (trim x)).1 (g1, g2) else (dateT now [x]).2 && (std && decide (stm = (dateT now [x]).1))))) := rfl
    have TR := Lib.hid (fun wx => rtrim6_any (bs x) wx (by rw [size_bs]; unfold maxLen; omega))
    rw [L_bs] at TR
    have htl := trim_le x
    have PA := Lib.hid (fun wx => rtparse_any (bs (trim x)) wx (by rw [size_bs]; omega))
    rw [L_bs] at PA
    rw [hR.out] at hHT
    obtain ⟨⟨⟨t1, t2⟩, at_, er⟩, hP⟩ := name_it (parT (trim x))
    rw [hP.out] at PA hHT
    obtain ⟨⟨td, ok⟩, hD⟩ := name_it (dateT now [x])
    rw [hD.out] at DT hHT
    unfold parV encT at PA
    unfold dateR at DT
    simp only at PA hHT DT
    obtain ⟨T, hT⟩ := name_it (bs t2)
    rw [hT.out] at PA
    have gT : Hid (t2 = L T) := by unfold Hid; rw [← hT.out, L_bs]
    rw [gT.out, gY.out] at hHT
    obtain ⟨Z, hZ⟩ := name_it (bs (trim x))
    rw [hZ.out] at TR PA
    obtain ⟨X, hX⟩ := name_it (bs x)
    rw [hX.out] at c0 TR
    obtain ⟨nn, hn⟩ := name_it [x].length
    rw [hn.out] at e0 e2 ⊢
    clear hn hX hZ hT hD hP hR hx hsz O1 htl gT gY
    have x0 : w1.cell? ⟨m0, 0, none⟩ = some (.bool sth) := M1.out.cell 0
    cases sth with
    | false =>
      have hF : Hid (R = false) := hHT.out.trans rfl
      clear hHT DT TR PA
      go_wp2_with fail
      all_goals (try (exfalso; omega))
      go_ret
      exact ⟨ret_bool (by rw [hF.out]), B1.out⟩
    | true =>
      go_wp2_with fail
      all_goals (try (exfalso; omega))
      refine (TR.out _).mono ?_; rintro e w2 ⟨rfl, h2⟩
      have b2 : Below w1.heap.size w1 w2 := by rw [← h2]; exact Below.refl _ _
      clear h2
      have M2 := Lib.hid (M1.out.below b2 M1.out.lt)
      have F2 := Lib.hid (F1.out.next b2)
      have B2 := Lib.hid (B1.out.trans (b2.mono B1.out.size))
      clear b2 M1 F1 B1 TR x0 c0
      go_wp2_with fail
      all_goals (try (exfalso; omega))
      refine (PA.out _).mono ?_; rintro e w3 ⟨rfl, b3⟩
      have M3 := Lib.hid ((M2.out.below b3 M2.out.lt).alloc (.cells #[.bool t1, .string T] tRT))
      have N3 : Hid (Blk (w3.alloc (.cells #[.bool t1, .string T] tRT)) w3.heap.size tRT #[.bool t1, .string T]) := Blk.new w3 tRT _
      have F3 : Hid (FdSl (w3.alloc (.cells #[.bool t1, .string T] tRT)) (.slice p0 l.length cap0) l) := (F2.out.next b3).next ((Below.refl _ _).alloc (Nat.le_refl _) _)
      have B3 : Hid (Below w.heap.size w (w3.alloc (.cells #[.bool t1, .string T] tRT))) := (B2.out.trans (b3.mono B2.out.size)).alloc (B2.out.trans (b3.mono B2.out.size)).size _
      clear b3 M2 F2 B2 PA
      by_cases he : er = 0
      · subst he
        have hH2 : Hid (R = (stt && strongT (t1, L T) (g1, L Y))) := by unfold Hid; rw [hHT.out]; rfl
        have x2 : (w3.alloc (.cells #[.bool t1, .string T] tRT)).cell? ⟨m0, 3, none⟩ = some (.bool stt) := M3.out.cell 3
        have x3 : (w3.alloc (.cells #[.bool t1, .string T] tRT)).cell? ⟨m0, 1, none⟩ = some (.bool g1) := M3.out.cell 1
        have x4 : (w3.alloc (.cells #[.bool t1, .string T] tRT)).cell? ⟨m0, 2, none⟩ = some (.string Y) := M3.out.cell 2
        have x5 : (w3.alloc (.cells #[.bool t1, .string T] tRT)).cell? ⟨w3.heap.size, 0, none⟩ = some (.bool t1) := N3.out.cell 0
        have x6 : (w3.alloc (.cells #[.bool t1, .string T] tRT)).cell? ⟨w3.heap.size, 1, none⟩ = some (.string T) := N3.out.cell 1
        clear hHT DT
        have CS := Lib.hid (rstrongG t1 g1 T Y (w3.alloc (.cells #[.bool t1, .string T] tRT)))
        obtain ⟨q, hq⟩ := name_it (strongT (t1, L T) (g1, L Y))
        rw [hq.out] at CS hH2
        clear hq
        cases stt with
        | false =>
          go_wp2_with fail
          all_goals (try (exfalso; omega))
          go_ret
          exact ⟨ret_bool (by rw [hH2.out]; rfl), B3.out⟩
        | true =>
          go_wp2_with fail
          all_goals (try (exfalso; omega))
          refine CS.out.mono ?_; rintro e w5 ⟨rfl, q5, os5, h5⟩
          have b5 : Below (w3.alloc (.cells #[.bool t1, .string T] tRT)).heap.size (w3.alloc (.cells #[.bool t1, .string T] tRT)) w5 := by rw [h5]; exact below_grow q5 os5
          have B5 := Lib.hid (B3.out.trans (b5.mono B3.out.size))
          clear b5 h5
          go_wp2_with fail
          all_goals (try (exfalso; omega))
          go_ret
          exact ⟨ret_bool (by rw [hH2.out]; rfl), B5.out⟩
      · have hH2 : Hid (R = (ok && (std && decide (stm = td)))) := by unfold Hid; rw [hHT.out, if_neg he]; rfl
        have hb0 : (er == 0) = false := beq_eq_false_iff_ne.2 he
        clear hHT N3
        have DC := Lib.hid (DT.out _ F3.out)
        have M5 := M3
        have B5 := B3
        clear DT M3 F3 B3 he
        go_wp2_with fail
        all_goals (try (exfalso; omega))
        refine DC.out.mono ?_; rintro e w6 ⟨rfl, b6⟩
        have M6 := Lib.hid (M5.out.below b6 M5.out.lt)
        have B6 := Lib.hid (B5.out.trans (b6.mono B5.out.size))
        clear b6 DC M5 B5
        have y4 : w6.cell? ⟨m0, 4, none⟩ = some (.int .i64 stm) := M6.out.cell 4
        have y5 : w6.cell? ⟨m0, 5, none⟩ = some (.bool std) := M6.out.cell 5
        have hc : stm = td ∨ stm ≠ td := by omega
        rcases hc with hc | hc
        · subst hc
          have hdd : (stm == stm) = true := by simp
          cases ok <;> cases std
          all_goals
            go_wp2_with fail
            all_goals (try (exfalso; omega))
            go_ret
            exact ⟨ret_bool (by rw [hH2.out]; simp), B6.out⟩
        · have hdd : (stm == td) = false := beq_eq_false_iff_ne.2 hc
          cases ok <;> cases std
          all_goals
            go_wp2_with fail
            all_goals (try (exfalso; omega))
            go_ret
            exact ⟨ret_bool (by rw [hH2.out]; simp [hc]), B6.out⟩
end Go.Proofs.YtjalfddedikibaaGreatDoor
