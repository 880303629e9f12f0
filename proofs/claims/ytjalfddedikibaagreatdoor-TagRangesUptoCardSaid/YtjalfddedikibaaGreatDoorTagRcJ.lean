/- Contract of the document's Decide. -/
import Derived.Test.YtjalfddedikibaaGreatDoorTagRbJ
namespace Go.Proofs.YtjalfddedikibaaGreatDoor
open Go Go.RowKit Go.Sort
set_option maxHeartbeats 8000000

/-- what the document's Decide has laid -/
structure RW (w W : World) (m0 : Nat) (v : Value) (l : List Fd) (s : Sta) : Prop where
  blk : Blk W m0 tRSt (stateC s)
  fd : FdSl W v l
  below : Below w.heap.size w W
theorem RW.next {w W W' : World} {m0 : Nat} {v : Value} {l : List Fd} {s : Sta} (h : RW w W m0 v l s) (hb : Below W.heap.size W W') : RW w W' m0 v l s :=
  ⟨h.blk.below hb h.blk.lt, h.fd.next hb, h.below.trans (hb.mono h.below.size)⟩
def laterV (rd ne2 M2 ok2 sth std : Bool) (t2 stm : Int) : Int := if ne2 = true then (if M2 = true then (if rd = true then 304 else 412) else 0) else if (rd && (ok2 && (sth && (std && decide (stm ≤ t2))))) = true then 304 else 0
def decideV (rd ne1 M1 ok1 ne2 M2 ok2 sth std : Bool) (t1 t2 stm : Int) : Int := if ne1 = true then (if M1 = true then laterV rd ne2 M2 ok2 sth std t2 stm else 412) else (if (ok1 && (sth && (std && decide (t1 < stm)))) = true then 412 else laterV rd ne2 M2 ok2 sth std t2 stm)
theorem decideR_V (rd : Bool) (s : Sta) (now : Int) (l : List Fd) : decideR rd s now l = decideV rd (decide (valuesF l nmIM ≠ [])) (metT strongT s (valuesF l nmIM)) (dateT now (valuesF l nmIU)).2 (decide (valuesF l nmIN ≠ [])) (metT alikeT s (valuesF l nmIN)) (dateT now (valuesF l nmID)).2 s.there s.timed (dateT now (valuesF l nmIU)).1 (dateT now (valuesF l nmID)).1 s.time := by
  unfold decideR decideV laterR laterV
  by_cases h1 : valuesF l nmIM = []
  · by_cases h2 : valuesF l nmIN = []
    · simp [h1, h2]
    · simp [h1, h2]
  · by_cases h2 : valuesF l nmIN = []
    · simp [h1, h2]
    · simp [h1, h2]
theorem joined_le (l : List Fd) (nm : Tx) (hl : fSum l ≤ 1048576) : (bs (Lib.join (valuesF l nm) [44, 32])).size ≤ 1048576 := by
  rw [size_bs]
  have h1 := join_le (valuesF l nm)
  have h2 := values_sum l nm
  omega

set_option maxRecDepth 100000 in
theorem rdecide_any (m : ByteArray) (v : Value) (l : List Fd) (s : Sta) (now : Int) (w : World) (hv : FdSl w v l) (hl : fSum l ≤ 1048576) :
    Calls Tryz.prog 9 #[.string m, v, encSt s, .int .i64 now] w fun e w' => e = .returned (.int .i64 (decideR (readsT (L m)) s now l)) ∧ Below w.heap.size w w' := by
  have M0 : Hid (RW w (w.alloc (.cells (stateC s) tRSt)) w.heap.size v l s) := ⟨Blk.new w tRSt _, hv.next ((Below.refl _ _).alloc (Nat.le_refl _) _), (Below.refl _ _).alloc (Nat.le_refl _) _⟩
  have RJ := Lib.hid (fun wx (h : FdSl wx v l) => rjoined_any v l ⟨#[73, 102, 45, 77, 97, 116, 99, 104]⟩ wx h hl (by decide))
  have RK := Lib.hid (fun wx (h : FdSl wx v l) => rjoined_any v l ⟨#[73, 102, 45, 78, 111, 110, 101, 45, 77, 97, 116, 99, 104]⟩ wx h hl (by decide))
  have RD := Lib.hid (fun wx (h : FdSl wx v l) => rdate_any v l ⟨#[73, 102, 45, 85, 110, 109, 111, 100, 105, 102, 105, 101, 100, 45, 83, 105, 110, 99, 101]⟩ now wx h hl (by decide))
  have RE := Lib.hid (fun wx (h : FdSl wx v l) => rdate_any v l ⟨#[73, 102, 45, 77, 111, 100, 105, 102, 105, 101, 100, 45, 83, 105, 110, 99, 101]⟩ now wx h hl (by decide))
  have RM := Lib.hid (fun wx => met_any (bs (Lib.join (valuesF l nmIM) [44, 32])) s true wx (joined_le l _ hl))
  have RN := Lib.hid (fun wx => met_any (bs (Lib.join (valuesF l nmIN) [44, 32])) s false wx (joined_le l _ hl))
  have e1 : L ⟨#[73, 102, 45, 77, 97, 116, 99, 104]⟩ = nmIM := rfl
  have e2 : L ⟨#[73, 102, 45, 78, 111, 110, 101, 45, 77, 97, 116, 99, 104]⟩ = nmIN := rfl
  have e3 : L ⟨#[73, 102, 45, 85, 110, 109, 111, 100, 105, 102, 105, 101, 100, 45, 83, 105, 110, 99, 101]⟩ = nmIU := rfl
  have e4 : L ⟨#[73, 102, 45, 77, 111, 100, 105, 102, 105, 101, 100, 45, 83, 105, 110, 99, 101]⟩ = nmID := rfl
  rw [e1] at RJ
  rw [e2] at RK
  rw [e3] at RD
  rw [e4] at RE
  rw [L_bs, metR_strong] at RM
  rw [L_bs, metR_alike] at RN
  unfold joinedV at RJ RK
  unfold dateR at RD RE
  have HR : Hid (decideR (readsT (L m)) s now l = decideV (readsT (L m)) (decide (valuesF l nmIM ≠ [])) (metT strongT s (valuesF l nmIM)) (dateT now (valuesF l nmIU)).2 (decide (valuesF l nmIN ≠ [])) (metT alikeT s (valuesF l nmIN)) (dateT now (valuesF l nmID)).2 s.there s.timed (dateT now (valuesF l nmIU)).1 (dateT now (valuesF l nmID)).1 s.time) := decideR_V ..
  have HG : Hid (readsT (L m) = ((m.toList == [71, 69, 84]) || (m.toList == [72, 69, 65, 68]))) := by
    unfold Hid readsT; rw [toList_L]; exact Bool.eq_iff_iff.2 (by simp)
  obtain ⟨⟨t1, ok1⟩, hD1⟩ := name_it (dateT now (valuesF l nmIU))
  rw [hD1.out] at RD HR
  obtain ⟨⟨t2, ok2⟩, hD2⟩ := name_it (dateT now (valuesF l nmID))
  rw [hD2.out] at RE HR
  simp only at RD RE HR
  obtain ⟨M1, hM1⟩ := name_it (metT strongT s (valuesF l nmIM))
  rw [hM1.out] at RM HR
  obtain ⟨M2, hM2⟩ := name_it (metT alikeT s (valuesF l nmIN))
  rw [hM2.out] at RN HR
  obtain ⟨X1, hX1⟩ := name_it (bs (Lib.join (valuesF l nmIM) [44, 32]))
  rw [hX1.out] at RJ RM
  obtain ⟨X2, hX2⟩ := name_it (bs (Lib.join (valuesF l nmIN) [44, 32]))
  rw [hX2.out] at RK RN
  obtain ⟨ne1, hne1⟩ := name_it (decide (valuesF l nmIM ≠ []))
  rw [hne1.out] at RJ HR
  obtain ⟨ne2, hne2⟩ := name_it (decide (valuesF l nmIN ≠ []))
  rw [hne2.out] at RK HR
  obtain ⟨R, hR⟩ := name_it (decideR (readsT (L m)) s now l)
  rw [hR.out] at HR ⊢
  obtain ⟨rd, hrd⟩ := name_it (readsT (L m))
  rw [hrd.out] at HR HG
  clear e1 e2 e3 e4 hv hl hD1 hD2 hM1 hM2 hX1 hX2 hne1 hne2 hR hrd
  unfold encSt at RM RN ⊢
  obtain ⟨sth, ⟨g1, g2⟩, stt, stm, std⟩ := s
  simp only at RM RN HR ⊢
  have CS : Hid (∀ W, RW w W w.heap.size v l ⟨sth, (g1, g2), stt, stm, std⟩ → W.cell? ⟨w.heap.size, 0, none⟩ = some (.bool sth) ∧ W.cell? ⟨w.heap.size, 1, none⟩ = some (.bool g1) ∧ W.cell? ⟨w.heap.size, 2, none⟩ = some (.string (bs g2)) ∧ W.cell? ⟨w.heap.size, 3, none⟩ = some (.bool stt) ∧ W.cell? ⟨w.heap.size, 4, none⟩ = some (.int .i64 stm) ∧ W.cell? ⟨w.heap.size, 5, none⟩ = some (.bool std)) :=
    fun W h => ⟨h.blk.cell 0, h.blk.cell 1, h.blk.cell 2, h.blk.cell 3, h.blk.cell 4, h.blk.cell 5⟩
  obtain ⟨Y, hY⟩ := name_it (bs g2)
  unfold stateC at M0
  simp only at M0
  rw [hY.out] at RM RN CS M0 ⊢
  clear hY
  have W0 : ∃ wz, Hid (w.alloc (.cells #[.bool sth, .bool g1, .string Y, .bool stt, .int .i64 stm, .bool std] tRSt) = wz) := ⟨_, rfl⟩
  obtain ⟨w0, hw0⟩ := W0
  have Z0 : ∃ mz, Hid (w.heap.size = mz) := ⟨_, rfl⟩
  obtain ⟨m0, hm0⟩ := Z0
  cases hg1 : (m.toList == [71, 69, 84]) with
  | true =>
    obtain rfl : rd = true := by rw [HG.out, hg1]; rfl
    clear HG
    go_enter Tryz.func9, Tryz.ntmps9
    go_wp2_with fail
    rw [hw0.out] at M0 ⊢
    rw [hm0.out] at M0 CS ⊢
    refine (RJ.out _ M0.out.fd).mono ?_; rintro e w1 ⟨rfl, b1⟩
    have M1' := Lib.hid (M0.out.next b1)
    clear b1 M0 RJ hw0
    obtain ⟨x0, x1, x2, x3, x4, x5⟩ := CS.out w1 M1'.out
    cases ne1 with
    | true =>
      go_wp2_with fail
      all_goals (try (exfalso; omega))
      refine (RM.out _).mono ?_; rintro e w2 ⟨rfl, b2⟩
      have M2' := Lib.hid (M1'.out.next b2)
      clear b2 M1' RM x0 x1 x2 x3 x4 x5
      cases M1 with
      | false =>
        go_wp2_with fail
        all_goals (try (exfalso; omega))
        all_goals go_ret
        all_goals exact ⟨ret_int (HR.out.trans (by first | rfl | (simp [decideV, laterV, *]; done) | (simp [decideV, laterV]; (repeat' split) <;> omega))).symm, M2'.out.below⟩
      | true =>
        go_wp2_with fail
        all_goals (try (exfalso; omega))
        refine (RK.out _ M2'.out.fd).mono ?_; rintro e w3 ⟨rfl, b3⟩
        have M3 := Lib.hid (M2'.out.next b3)
        clear b3 M2' RK
        obtain ⟨x0, x1, x2, x3, x4, x5⟩ := CS.out w3 (by first | exact M3.out)
        cases ne2 with
        | true =>
          go_wp2_with fail
          all_goals (try (exfalso; omega))
          refine (RN.out _).mono ?_; rintro e w4 ⟨rfl, b4⟩
          have M4 := Lib.hid (M3.out.next b4)
          clear b4 M3 RN x0 x1 x2 x3 x4 x5
          cases M2
          all_goals
            go_wp2_with fail
            all_goals (try (exfalso; omega))
            all_goals go_ret
            all_goals exact ⟨ret_int (HR.out.trans (by first | rfl | (simp [decideV, laterV, *]; done) | (simp [decideV, laterV]; (repeat' split) <;> omega))).symm, M4.out.below⟩
        | false =>
          go_wp2_with fail
          all_goals (try (exfalso; omega))
          clear x0 x1 x2 x3 x4 x5
          refine (RE.out _ M3.out.fd).mono ?_; rintro e w4 ⟨rfl, b4⟩
          have M4 := Lib.hid (M3.out.next b4)
          clear b4 M3 RE
          obtain ⟨x0, x1, x2, x3, x4, x5⟩ := CS.out w4 M4.out
          cases ok2
          · 
            go_wp2_with fail
            all_goals (try (exfalso; omega))
            all_goals go_ret
            all_goals exact ⟨ret_int (HR.out.trans (by first | rfl | (simp [decideV, laterV, *]; done) | (simp [decideV, laterV]; (repeat' split) <;> omega))).symm, M4.out.below⟩
          · have hc : stm ≤ t2 ∨ ¬ stm ≤ t2 := by omega
            rcases hc with hc | hc
            all_goals (try cases sth)
            all_goals (try cases std)
            all_goals
              go_wp2_with fail
              all_goals (try (exfalso; omega))
              all_goals go_ret
              all_goals exact ⟨ret_int (HR.out.trans (by first | rfl | (simp [decideV, laterV, *]; done) | (simp [decideV, laterV]; (repeat' split) <;> omega))).symm, M4.out.below⟩
    | false =>
      go_wp2_with fail
      all_goals (try (exfalso; omega))
      clear x0 x1 x2 x3 x4 x5
      refine (RD.out _ M1'.out.fd).mono ?_; rintro e w2 ⟨rfl, b2⟩
      have M2' := Lib.hid (M1'.out.next b2)
      clear b2 M1' RD
      obtain ⟨x0, x1, x2, x3, x4, x5⟩ := CS.out w2 M2'.out
      have hc : t1 < stm ∨ ¬ t1 < stm := by omega
      rcases hc with hc1 | hc1
      all_goals cases ok1 <;> cases sth <;> cases std
      rotate_left 7
      · 
        go_wp2_with fail
        all_goals (try (exfalso; omega))
        all_goals go_ret
        all_goals exact ⟨ret_int (HR.out.trans (by first | rfl | (simp [decideV, *]; done) | (simp [decideV, laterV]; (repeat' split) <;> omega))).symm, M2'.out.below⟩
      all_goals
        go_wp2_with fail
        all_goals (try (exfalso; omega))
        refine (RK.out _ M2'.out.fd).mono ?_; rintro e w3 ⟨rfl, b3⟩
        have M3 := Lib.hid (M2'.out.next b3)
        clear b3 M2' RK
        obtain ⟨x0, x1, x2, x3, x4, x5⟩ := CS.out w3 (by first | exact M3.out)
        cases ne2 with
        | true =>
          go_wp2_with fail
          all_goals (try (exfalso; omega))
          refine (RN.out _).mono ?_; rintro e w4 ⟨rfl, b4⟩
          have M4 := Lib.hid (M3.out.next b4)
          clear b4 M3 RN x0 x1 x2 x3 x4 x5
          cases M2
          all_goals
            go_wp2_with fail
            all_goals (try (exfalso; omega))
            all_goals go_ret
            all_goals exact ⟨ret_int (HR.out.trans (by first | rfl | (simp [decideV, laterV, *]; done) | (simp [decideV, laterV]; (repeat' split) <;> omega))).symm, M4.out.below⟩
        | false =>
          go_wp2_with fail
          all_goals (try (exfalso; omega))
          clear x0 x1 x2 x3 x4 x5
          refine (RE.out _ M3.out.fd).mono ?_; rintro e w4 ⟨rfl, b4⟩
          have M4 := Lib.hid (M3.out.next b4)
          clear b4 M3 RE
          obtain ⟨x0, x1, x2, x3, x4, x5⟩ := CS.out w4 M4.out
          cases ok2
          · 
            go_wp2_with fail
            all_goals (try (exfalso; omega))
            all_goals go_ret
            all_goals exact ⟨ret_int (HR.out.trans (by first | rfl | (simp [decideV, laterV, *]; done) | (simp [decideV, laterV]; (repeat' split) <;> omega))).symm, M4.out.below⟩
          · have hc : stm ≤ t2 ∨ ¬ stm ≤ t2 := by omega
            rcases hc with hc | hc
            all_goals (try cases sth)
            all_goals (try cases std)
            all_goals
              go_wp2_with fail
              all_goals (try (exfalso; omega))
              all_goals go_ret
              all_goals exact ⟨ret_int (HR.out.trans (by first | rfl | (simp [decideV, laterV, *]; done) | (simp [decideV, laterV]; (repeat' split) <;> omega))).symm, M4.out.below⟩
  | false =>
    have hg2 : (m.toList == [72, 69, 65, 68]) = rd := by rw [HG.out, hg1]; rfl
    clear HG
    cases rd with
    | true =>
      go_enter Tryz.func9, Tryz.ntmps9
      go_wp2_with fail
      rw [hw0.out] at M0 ⊢
      rw [hm0.out] at M0 CS ⊢
      refine (RJ.out _ M0.out.fd).mono ?_; rintro e w1 ⟨rfl, b1⟩
      have M1' := Lib.hid (M0.out.next b1)
      clear b1 M0 RJ hw0
      obtain ⟨x0, x1, x2, x3, x4, x5⟩ := CS.out w1 M1'.out
      cases ne1 with
      | true =>
        go_wp2_with fail
        all_goals (try (exfalso; omega))
        refine (RM.out _).mono ?_; rintro e w2 ⟨rfl, b2⟩
        have M2' := Lib.hid (M1'.out.next b2)
        clear b2 M1' RM x0 x1 x2 x3 x4 x5
        cases M1 with
        | false =>
          go_wp2_with fail
          all_goals (try (exfalso; omega))
          all_goals go_ret
          all_goals exact ⟨ret_int (HR.out.trans (by first | rfl | (simp [decideV, laterV, *]; done) | (simp [decideV, laterV]; (repeat' split) <;> omega))).symm, M2'.out.below⟩
        | true =>
          go_wp2_with fail
          all_goals (try (exfalso; omega))
          refine (RK.out _ M2'.out.fd).mono ?_; rintro e w3 ⟨rfl, b3⟩
          have M3 := Lib.hid (M2'.out.next b3)
          clear b3 M2' RK
          obtain ⟨x0, x1, x2, x3, x4, x5⟩ := CS.out w3 (by first | exact M3.out)
          cases ne2 with
          | true =>
            go_wp2_with fail
            all_goals (try (exfalso; omega))
            refine (RN.out _).mono ?_; rintro e w4 ⟨rfl, b4⟩
            have M4 := Lib.hid (M3.out.next b4)
            clear b4 M3 RN x0 x1 x2 x3 x4 x5
            cases M2
            all_goals
              go_wp2_with fail
              all_goals (try (exfalso; omega))
              all_goals go_ret
              all_goals exact ⟨ret_int (HR.out.trans (by first | rfl | (simp [decideV, laterV, *]; done) | (simp [decideV, laterV]; (repeat' split) <;> omega))).symm, M4.out.below⟩
          | false =>
            go_wp2_with fail
            all_goals (try (exfalso; omega))
            clear x0 x1 x2 x3 x4 x5
            refine (RE.out _ M3.out.fd).mono ?_; rintro e w4 ⟨rfl, b4⟩
            have M4 := Lib.hid (M3.out.next b4)
            clear b4 M3 RE
            obtain ⟨x0, x1, x2, x3, x4, x5⟩ := CS.out w4 M4.out
            cases ok2
            · 
              go_wp2_with fail
              all_goals (try (exfalso; omega))
              all_goals go_ret
              all_goals exact ⟨ret_int (HR.out.trans (by first | rfl | (simp [decideV, laterV, *]; done) | (simp [decideV, laterV]; (repeat' split) <;> omega))).symm, M4.out.below⟩
            · have hc : stm ≤ t2 ∨ ¬ stm ≤ t2 := by omega
              rcases hc with hc | hc
              all_goals (try cases sth)
              all_goals (try cases std)
              all_goals
                go_wp2_with fail
                all_goals (try (exfalso; omega))
                all_goals go_ret
                all_goals exact ⟨ret_int (HR.out.trans (by first | rfl | (simp [decideV, laterV, *]; done) | (simp [decideV, laterV]; (repeat' split) <;> omega))).symm, M4.out.below⟩
      | false =>
        go_wp2_with fail
        all_goals (try (exfalso; omega))
        clear x0 x1 x2 x3 x4 x5
        refine (RD.out _ M1'.out.fd).mono ?_; rintro e w2 ⟨rfl, b2⟩
        have M2' := Lib.hid (M1'.out.next b2)
        clear b2 M1' RD
        obtain ⟨x0, x1, x2, x3, x4, x5⟩ := CS.out w2 M2'.out
        have hc : t1 < stm ∨ ¬ t1 < stm := by omega
        rcases hc with hc1 | hc1
        all_goals cases ok1 <;> cases sth <;> cases std
        rotate_left 7
        · 
          go_wp2_with fail
          all_goals (try (exfalso; omega))
          all_goals go_ret
          all_goals exact ⟨ret_int (HR.out.trans (by first | rfl | (simp [decideV, *]; done) | (simp [decideV, laterV]; (repeat' split) <;> omega))).symm, M2'.out.below⟩
        all_goals
          go_wp2_with fail
          all_goals (try (exfalso; omega))
          refine (RK.out _ M2'.out.fd).mono ?_; rintro e w3 ⟨rfl, b3⟩
          have M3 := Lib.hid (M2'.out.next b3)
          clear b3 M2' RK
          obtain ⟨x0, x1, x2, x3, x4, x5⟩ := CS.out w3 (by first | exact M3.out)
          cases ne2 with
          | true =>
            go_wp2_with fail
            all_goals (try (exfalso; omega))
            refine (RN.out _).mono ?_; rintro e w4 ⟨rfl, b4⟩
            have M4 := Lib.hid (M3.out.next b4)
            clear b4 M3 RN x0 x1 x2 x3 x4 x5
            cases M2
            all_goals
              go_wp2_with fail
              all_goals (try (exfalso; omega))
              all_goals go_ret
              all_goals exact ⟨ret_int (HR.out.trans (by first | rfl | (simp [decideV, laterV, *]; done) | (simp [decideV, laterV]; (repeat' split) <;> omega))).symm, M4.out.below⟩
          | false =>
            go_wp2_with fail
            all_goals (try (exfalso; omega))
            clear x0 x1 x2 x3 x4 x5
            refine (RE.out _ M3.out.fd).mono ?_; rintro e w4 ⟨rfl, b4⟩
            have M4 := Lib.hid (M3.out.next b4)
            clear b4 M3 RE
            obtain ⟨x0, x1, x2, x3, x4, x5⟩ := CS.out w4 M4.out
            cases ok2
            · 
              go_wp2_with fail
              all_goals (try (exfalso; omega))
              all_goals go_ret
              all_goals exact ⟨ret_int (HR.out.trans (by first | rfl | (simp [decideV, laterV, *]; done) | (simp [decideV, laterV]; (repeat' split) <;> omega))).symm, M4.out.below⟩
            · have hc : stm ≤ t2 ∨ ¬ stm ≤ t2 := by omega
              rcases hc with hc | hc
              all_goals (try cases sth)
              all_goals (try cases std)
              all_goals
                go_wp2_with fail
                all_goals (try (exfalso; omega))
                all_goals go_ret
                all_goals exact ⟨ret_int (HR.out.trans (by first | rfl | (simp [decideV, laterV, *]; done) | (simp [decideV, laterV]; (repeat' split) <;> omega))).symm, M4.out.below⟩
    | false =>
      go_enter Tryz.func9, Tryz.ntmps9
      go_wp2_with fail
      rw [hw0.out] at M0 ⊢
      rw [hm0.out] at M0 CS ⊢
      refine (RJ.out _ M0.out.fd).mono ?_; rintro e w1 ⟨rfl, b1⟩
      have M1' := Lib.hid (M0.out.next b1)
      clear b1 M0 RJ hw0
      obtain ⟨x0, x1, x2, x3, x4, x5⟩ := CS.out w1 M1'.out
      cases ne1 with
      | true =>
        go_wp2_with fail
        all_goals (try (exfalso; omega))
        refine (RM.out _).mono ?_; rintro e w2 ⟨rfl, b2⟩
        have M2' := Lib.hid (M1'.out.next b2)
        clear b2 M1' RM x0 x1 x2 x3 x4 x5
        cases M1 with
        | false =>
          go_wp2_with fail
          all_goals (try (exfalso; omega))
          all_goals go_ret
          all_goals exact ⟨ret_int (HR.out.trans (by first | rfl | (simp [decideV, laterV, *]; done) | (simp [decideV, laterV]; (repeat' split) <;> omega))).symm, M2'.out.below⟩
        | true =>
          go_wp2_with fail
          all_goals (try (exfalso; omega))
          refine (RK.out _ M2'.out.fd).mono ?_; rintro e w3 ⟨rfl, b3⟩
          have M3 := Lib.hid (M2'.out.next b3)
          clear b3 M2' RK
          obtain ⟨x0, x1, x2, x3, x4, x5⟩ := CS.out w3 (by first | exact M3.out)
          cases ne2 with
          | true =>
            go_wp2_with fail
            all_goals (try (exfalso; omega))
            refine (RN.out _).mono ?_; rintro e w4 ⟨rfl, b4⟩
            have M4 := Lib.hid (M3.out.next b4)
            clear b4 M3 RN x0 x1 x2 x3 x4 x5
            cases M2
            all_goals
              go_wp2_with fail
              all_goals (try (exfalso; omega))
              all_goals go_ret
              all_goals exact ⟨ret_int (HR.out.trans (by first | rfl | (simp [decideV, laterV, *]; done) | (simp [decideV, laterV]; (repeat' split) <;> omega))).symm, M4.out.below⟩
          | false =>
            go_wp2_with fail
            all_goals (try (exfalso; omega))
            clear x0 x1 x2 x3 x4 x5
            refine (RE.out _ M3.out.fd).mono ?_; rintro e w4 ⟨rfl, b4⟩
            have M4 := Lib.hid (M3.out.next b4)
            clear b4 M3 RE
            obtain ⟨x0, x1, x2, x3, x4, x5⟩ := CS.out w4 M4.out
            cases ok2
            · 
              go_wp2_with fail
              all_goals (try (exfalso; omega))
              all_goals go_ret
              all_goals exact ⟨ret_int (HR.out.trans (by first | rfl | (simp [decideV, laterV, *]; done) | (simp [decideV, laterV]; (repeat' split) <;> omega))).symm, M4.out.below⟩
            · have hc : stm ≤ t2 ∨ ¬ stm ≤ t2 := by omega
              rcases hc with hc | hc
              all_goals (try cases sth)
              all_goals (try cases std)
              all_goals
                go_wp2_with fail
                all_goals (try (exfalso; omega))
                all_goals go_ret
                all_goals exact ⟨ret_int (HR.out.trans (by first | rfl | (simp [decideV, laterV, *]; done) | (simp [decideV, laterV]; (repeat' split) <;> omega))).symm, M4.out.below⟩
      | false =>
        go_wp2_with fail
        all_goals (try (exfalso; omega))
        clear x0 x1 x2 x3 x4 x5
        refine (RD.out _ M1'.out.fd).mono ?_; rintro e w2 ⟨rfl, b2⟩
        have M2' := Lib.hid (M1'.out.next b2)
        clear b2 M1' RD
        obtain ⟨x0, x1, x2, x3, x4, x5⟩ := CS.out w2 M2'.out
        have hc : t1 < stm ∨ ¬ t1 < stm := by omega
        rcases hc with hc1 | hc1
        all_goals cases ok1 <;> cases sth <;> cases std
        rotate_left 7
        · 
          go_wp2_with fail
          all_goals (try (exfalso; omega))
          all_goals go_ret
          all_goals exact ⟨ret_int (HR.out.trans (by first | rfl | (simp [decideV, *]; done) | (simp [decideV, laterV]; (repeat' split) <;> omega))).symm, M2'.out.below⟩
        all_goals
          go_wp2_with fail
          all_goals (try (exfalso; omega))
          refine (RK.out _ M2'.out.fd).mono ?_; rintro e w3 ⟨rfl, b3⟩
          have M3 := Lib.hid (M2'.out.next b3)
          clear b3 M2' RK
          obtain ⟨x0, x1, x2, x3, x4, x5⟩ := CS.out w3 (by first | exact M3.out)
          cases ne2 with
          | true =>
            go_wp2_with fail
            all_goals (try (exfalso; omega))
            refine (RN.out _).mono ?_; rintro e w4 ⟨rfl, b4⟩
            have M4 := Lib.hid (M3.out.next b4)
            clear b4 M3 RN x0 x1 x2 x3 x4 x5
            cases M2
            all_goals
              go_wp2_with fail
              all_goals (try (exfalso; omega))
              all_goals go_ret
              all_goals exact ⟨ret_int (HR.out.trans (by first | rfl | (simp [decideV, laterV, *]; done) | (simp [decideV, laterV]; (repeat' split) <;> omega))).symm, M4.out.below⟩
          | false =>
            go_wp2_with fail
            all_goals (try (exfalso; omega))
            clear x0 x1 x2 x3 x4 x5
            refine (RE.out _ M3.out.fd).mono ?_; rintro e w4 ⟨rfl, b4⟩
            have M4 := Lib.hid (M3.out.next b4)
            clear b4 M3 RE
            obtain ⟨x0, x1, x2, x3, x4, x5⟩ := CS.out w4 M4.out
            cases ok2
            · 
              go_wp2_with fail
              all_goals (try (exfalso; omega))
              all_goals go_ret
              all_goals exact ⟨ret_int (HR.out.trans (by first | rfl | (simp [decideV, laterV, *]; done) | (simp [decideV, laterV]; (repeat' split) <;> omega))).symm, M4.out.below⟩
            · have hc : stm ≤ t2 ∨ ¬ stm ≤ t2 := by omega
              rcases hc with hc | hc
              all_goals (try cases sth)
              all_goals (try cases std)
              all_goals
                go_wp2_with fail
                all_goals (try (exfalso; omega))
                all_goals go_ret
                all_goals exact ⟨ret_int (HR.out.trans (by first | rfl | (simp [decideV, laterV, *]; done) | (simp [decideV, laterV]; (repeat' split) <;> omega))).symm, M4.out.below⟩
end Go.Proofs.YtjalfddedikibaaGreatDoor
