/- stamp's digits: what the closure takes. -/
import Derived.Test.YtjalfddedikibaaGreatDoorStampVJ
namespace Go.Proofs.YtjalfddedikibaaGreatDoor
open Go Go.RowKit
set_option maxHeartbeats 2000000

/-- what a closure that is handed digits does -/
def GotD (g f : Nat) : Prop := ∀ (b : Nat) (s : ByteArray) (st : Stm.St) (v : Int) (a : Nat) (w : World), CellsAt w b (rdCells s st) → Calls Tryz.prog g #[.pointer (some ⟨b, 0, none⟩), .int .i64 v, .int .i64 a] w (Sets w b s (Stm.setDig f v a st))

theorem st_at (st : Stm.St) : { st with at_ := st.at_ } = st := rfl
set_option maxRecDepth 100000 in
theorem digits_any (g f : Nat) (hgs : g = 109 ∨ g = 111 ∨ g = 112 ∨ g = 114 ∨ g = 115) (hg : GotD g f) (b c1 c2 c3 n : Nat) (bl : Bool) (s : ByteArray) (st : Stm.St) (w : World) (h : CellsAt w b (rdCells s st))
    (hc1 : w.cell? ⟨c1, 0, none⟩ = some (.int .i64 n)) (hc2 : w.cell? ⟨c2, 0, none⟩ = some (.bool bl)) (hc3 : w.cell? ⟨c3, 0, none⟩ = some (.func (.func g) #[] #[]))
    (n1 : c1 ≠ b) (l1 : c1 < w.heap.size) (n2 : c2 ≠ b) (l2 : c2 < w.heap.size) (n3 : c3 ≠ b) (l3 : c3 < w.heap.size) (hs : s.size ≤ 1099511627) (hn : n ≤ 4) (hat : st.at_ ≤ s.size) :
    Calls Tryz.prog 133 #[.pointer (some ⟨b, 0, none⟩), .pointer (some ⟨c1, 0, none⟩), .pointer (some ⟨c2, 0, none⟩), .pointer (some ⟨c3, 0, none⟩)] w (Took w b s (Stm.stepP (L s) (.dig n bl f) st)) := by
  obtain ⟨R, hR⟩ := name_it (Stm.stepP (L s) (.dig n bl f) st)
  rw [hR.out]
  obtain ⟨D, hD⟩ := name_it (Stm.digs (L s) n bl st.at_ 0)
  have hRD : Hid (R = if D.2.2 then (Stm.setDig f D.2.1 st.at_ { st with at_ := D.1 }, true) else ({ st with at_ := D.1 }, false)) := by rw [← hR.out]; exact step_dig hD.out
  clear hR
  have HG := Lib.hid hg
  have HGS := Lib.hid hgs
  clear hgs
  clear hg
  have HS := Lib.hid (Rd.start h)
  have HL := Lib.hid (L_length s)
  have s0 := HS.out.s
  have s1 := HS.out.at
  clear h
  obtain ⟨a0, ha0⟩ := name_it st.at_
  rw [ha0.out] at s1 hRD hD hat
  go_enter Tryz.func133, Tryz.ntmps133
  go_wp2_with fail
  go_loopw [7, 8, 9, 15] (fun v _ _ i wq => ∃ (k : Nat) (m : Int) (e : Bool), k ≤ n ∧ i = .int .i64 k ∧ v = .int .i64 m ∧ 0 ≤ m ∧ m < 10 ^ k ∧ a0 + k ≤ s.size ∧ Hid (Stm.digs (L s) (n - k) e (a0 + k) m = D) ∧ Hid (e = (bl && k == 0)) ∧ Hid (Rd w wq b s { st with at_ := a0 + k })) (fun _ _ _ i _ => n - (intOf i).toNat)
  case atStart => exact ⟨0, 0, bl, Nat.zero_le _, rfl, rfl, by omega, by simp, hat, hD, by simp [Hid], by rw [← ha0.out]; exact HS⟩
  case round =>
    obtain ⟨k, m, e, hk, rfl, rfl, m0, m1, hak, hd, he, A⟩ := hrel
    have q1 : wr.cell? ⟨c1, 0, none⟩ = some (.int .i64 n) := by rw [A.out.but.cell c1 0 n1 l1]; exact hc1
    have q2 : wr.cell? ⟨c2, 0, none⟩ = some (.bool bl) := by rw [A.out.but.cell c2 0 n2 l2]; exact hc2
    have q3 : wr.cell? ⟨c3, 0, none⟩ = some (.func (.func g) #[] #[]) := by rw [A.out.but.cell c3 0 n3 l3]; exact hc3
    have hs0 := A.out.s
    have hs1 := A.out.at
    have g1 := A.out.cells.free 1
    obtain ⟨a, ha⟩ : ∃ a : Nat, Hid (a0 + k = a) := ⟨_, rfl⟩
    rw [ha.out] at hs1 hd hak
    have A' : Hid (Rd w wr b s { st with at_ := a }) := by rw [← ha.out]; exact A
    clear A
    have A := A'
    clear A'
    have hai : (a : Int) ≤ s.size := by omega
    have hp4 : (10 : Int) ^ k ≤ 10000 := by
      have : (10 : Nat) ^ k ≤ 10 ^ 4 := Nat.pow_le_pow_right (by omega) (by omega)
      exact_mod_cast this
    have m2 : m ≤ 9999 := by omega
    have HM := Lib.hid m1
    clear hp4 m1
    have hps : (10 : Int) ^ (k + 1) = 10 ^ k * 10 := Int.pow_succ _ _
    have HP := Lib.hid hps
    clear hps
    by_cases hlt : k < n
    · have hkn : (k : Int) < n := by omega
      by_cases hin : a < s.size
      · have hii : (a : Int) < s.size := by omega
        have hst := digs_some (w := n - (k + 1)) (b := e) (v := m) (L_get? hin)
        rw [show n - (k + 1) + 1 = n - k by omega] at hst
        have HSt := Lib.hid hst
        clear hst
        obtain ⟨c, hc⟩ := name_it (s[a])
        rw [hc.out] at HSt
        have hc' : s[a] = c := hc.out
        have hcm : (c.toNat : Int) < 256 := by have := UInt8.toNat_lt c; omega
        have A2 : Hid (∀ r, Rd w ((wr.drewN r).setCell ⟨b, 1, none⟩ (.int .i64 ((a : Int) + 1))) b s { st with at_ := a0 + (k + 1) }) := by
          intro r
          have := (A.out.drewN r).set (st' := { st with at_ := a + 1 }) 1 (by decide) (.int .i64 ((a : Int) + 1)) rfl
          rw [show a0 + (k + 1) = a + 1 by have := ha.out; omega]; exact this
        have A3 : Hid (∀ r r2, Rd w (((wr.drewN r).drewN r2).setCell ⟨b, 1, none⟩ (.int .i64 ((a : Int) + 1))) b s { st with at_ := a0 + (k + 1) }) := by
          intro r r2
          have := ((A.out.drewN r).drewN r2).set (st' := { st with at_ := a + 1 }) 1 (by decide) (.int .i64 ((a : Int) + 1)) rfl
          rw [show a0 + (k + 1) = a + 1 by have := ha.out; omega]; exact this
        have hak2 : a0 + (k + 1) ≤ s.size := by have := ha.out; omega
        by_cases hdg : 48 ≤ c.toNat ∧ c.toNat ≤ 57
        · have heb : (e && c == 32) = false := by rw [Stm.isDig_ne c (by unfold Stm.isDig; exact decide_eq_true hdg)]; simp
          have hN : Hid (Stm.digs (L s) (n - (k + 1)) false (a0 + (k + 1)) (10 * m + ((c.toNat : Int) - 48)) = D) := by
            rw [← hd.out, HSt.out, heb, if_neg (by simp), if_pos (show Stm.isDig c = true by unfold Stm.isDig; exact decide_eq_true hdg), show a0 + (k + 1) = a + 1 by have := ha.out; omega]; rfl
          have hm2 : Hid (10 * m + ((c.toNat : Int) - 48) < 10 ^ (k + 1)) := by have := HM.out; rw [HP.out]; unfold Hid; omega
          have hcb : ((c.toNat : Int) == 32) = false := by rw [beq_eq_false_iff_ne]; omega
          have hcase : bl = false ∨ (bl = true ∧ ((k : Int) == 0) = false) ∨ (bl = true ∧ ((k : Int) == 0) = true) := by
            cases bl <;> simp <;> omega
          clear HSt HM HP hd hc
          rcases hcase with rfl | ⟨rfl, hkb⟩ | ⟨rfl, hkb⟩
          all_goals
            go_wp2_with fail
            go_quiet (fail)
            go_wp2_with fail
            go_quiet (fail)
            go_wp2_with fail
            all_goals (try (exfalso; omega))
            go_roundw
            case rel => exact ⟨k + 1, _, false, by omega, by go_num, rfl, by omega, hm2.out, hak2, hN, by simp [Hid], by first | exact A2.out _ | exact A3.out _ _⟩
            case measure => simp [intOf]; omega
        · by_cases hbk : bl = true ∧ k = 0 ∧ c = 32
          · have heb : (e && c == 32) = true := by rw [he.out, hbk.1, hbk.2.1, hbk.2.2]; rfl
            have hm0 : m = 0 := by have := HM.out; rw [hbk.2.1] at this; simp at this; omega
            have hN : Hid (Stm.digs (L s) (n - (k + 1)) false (a0 + (k + 1)) (10 * m) = D) := by
              rw [← hd.out, HSt.out, heb, if_pos rfl, show a0 + (k + 1) = a + 1 by have := ha.out; omega]; rfl
            have hm2 : Hid (10 * m < 10 ^ (k + 1)) := by have := HM.out; rw [HP.out]; unfold Hid; omega
            have hkb : ((k : Int) == 0) = true := by simp; exact hbk.2.1
            have hcb : ((c.toNat : Int) == 32) = true := by rw [hbk.2.2]; rfl
            obtain rfl := hbk.1
            clear HSt HM HP hd hc hbk hm0 heb
            go_wp2_with fail
            go_quiet (fail)
            go_wp2_with fail
            go_quiet (fail)
            go_wp2_with fail
            all_goals (try (exfalso; omega))
            go_roundw
            case rel => exact ⟨k + 1, 10 * m, false, by omega, by go_num, by go_num, by omega, hm2.out, hak2, hN, by simp [Hid], by first | exact A2.out _ | exact A3.out _ _⟩
            case measure => simp [intOf]; omega
          · have heb : (e && c == 32) = false := by
              rw [Bool.eq_false_iff]; intro h; rw [he.out] at h; simp at h; exact hbk ⟨h.1.1, h.1.2, h.2⟩
            have hr : Hid (R = ({ st with at_ := a }, false)) := by
              have hD2 : D = (a, m, false) := by
                rw [← hd.out, HSt.out, heb, if_neg (by simp), if_neg (show ¬ Stm.isDig c = true by unfold Stm.isDig; rw [decide_eq_true_eq]; exact hdg)]
              rw [hRD.out, hD2]; rfl
            have hcase : bl = false ∨ (bl = true ∧ ((k : Int) == 0) = false) ∨ (bl = true ∧ ((k : Int) == 0) = true ∧ ((c.toNat : Int) == 32) = false) := by
              cases bl
              · exact Or.inl rfl
              · by_cases hk1 : k = 0
                · refine Or.inr (Or.inr ⟨rfl, by simp [hk1], byte_ne (fun h => hbk ⟨rfl, hk1, h⟩)⟩)
                · exact Or.inr (Or.inl ⟨rfl, by simp; omega⟩)
            clear HSt HM HP hd hc hbk heb
            rcases hcase with rfl | ⟨rfl, hkb⟩ | ⟨rfl, hkb, hcb⟩
            all_goals
              go_wp2_with fail
              go_quiet (fail)
              go_wp2_with fail
              go_quiet (fail)
              go_wp2_with fail
              all_goals (try (exfalso; omega))
              all_goals go_ret
              all_goals first | exact Took.of hr (A.out.drewN _) | exact Took.of hr ((A.out.drewN _).drewN _)
      · have hii : (s.size : Int) ≤ a := by omega
        have hr : Hid (R = ({ st with at_ := a }, false)) := by
          have hst := digs_none (w := n - (k + 1)) (b := e) (v := m) (L_get?_none (show s.size ≤ a by omega))
          rw [show n - (k + 1) + 1 = n - k by omega] at hst
          rw [hRD.out, ← hd.out, hst]; rfl
        clear HM HP hd
        go_wp2_with fail
        go_quiet (fail)
        go_wp2_with fail
        all_goals (try (exfalso; omega))
        go_ret
        exact Took.of hr (A.out.drewN _)
    · obtain rfl : k = n := by omega
      have hr : Hid (R = (Stm.setDig f m a0 { st with at_ := a }, true)) := by
        rw [hRD.out, ← hd.out, Nat.sub_self]; rfl
      clear HM HP hd
      rcases HGS.out with rfl | rfl | rfl | rfl | rfl
      all_goals
        go_wp2_with fail
        all_goals (try (exfalso; omega))
        refine (HG.out b s { st with at_ := a } m a0 _ A.out.cells).mono ?_; rintro e' w1 ⟨rfl, hR1⟩
        have A1 := Lib.hid (A.out.trans hR1)
        go_wp2_with fail
        go_ret
        exact Took.of hr A1.out
theorem gotD0 : GotD 109 0 := fun b s st v a w h => set_d0 b s st v a w h
theorem gotD1 : GotD 111 1 := fun b s st v a w h => set_d1 b s st v a w h
theorem gotD2 : GotD 112 2 := fun b s st v a w h => set_d2 b s st v a w h
theorem gotD3 : GotD 114 3 := fun b s st v a w h => set_d3 b s st v a w h
theorem gotD4 : GotD 115 4 := fun b s st v a w h => set_d4 b s st v a w h
end Go.Proofs.YtjalfddedikibaaGreatDoor
