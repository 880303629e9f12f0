/- stamp's name: what the closure takes. -/
import Derived.Test.YtjalfddedikibaaGreatDoorStampVbJ
namespace Go.Proofs.YtjalfddedikibaaGreatDoor
open Go Go.RowKit
set_option maxHeartbeats 2000000

theorem EnvS.but {b : Nat} {w w' : World} (h : EnvS w) (k : But b w w') (hb : Below b w w') (h6 : 8 ≤ b) : EnvS w' where
  n := Nat.le_trans h.n k.size
  week j hj := by rw [hb.cell (p := ⟨0, j, none⟩) (Nat.lt_of_lt_of_le (by show 0 < 8; decide) h6)]; exact h.week j hj
  mon j hj := by rw [hb.cell (p := ⟨1, j, none⟩) (Nat.lt_of_lt_of_le (by show 1 < 8; decide) h6)]; exact h.mon j hj
def tabB (k : Nat) : Nat := if k = 2 then 1 else 0
def lettersOf (k : Nat) : Int := if k = 0 then 3 else 0
def gotN (k : Nat) : Nat := if k = 2 then 106 else 104
theorem name_cell {w : World} (h : EnvS w) (n : Nat) (hn : n < 7) : w.cell? ⟨0, n, none⟩ = some (.string (bs (Stm.longN.getD n []))) := h.week n hn
theorem ext_all (x : ByteArray) : x.extract 0 x.size = x := by rw [extract_bs, L_take_all]; rfl

set_option maxRecDepth 100000 in
theorem name0_any (b c1 c2 c3 : Nat) (s : ByteArray) (st : Stm.St) (w : World) (hE : EnvS w) (h : CellsAt w b (rdCells s st)) (hb6 : 8 ≤ b)
    (hc1 : w.cell? ⟨c1, 0, none⟩ = some (.slice (some ⟨0, 0, none⟩) 7 7)) (hc2 : w.cell? ⟨c2, 0, none⟩ = some (.int .i64 3)) (hc3 : w.cell? ⟨c3, 0, none⟩ = some (.func (.func 104) #[] #[]))
    (_n1 : c1 ≠ b) (_l1 : c1 < w.heap.size) (n2 : c2 ≠ b) (l2 : c2 < w.heap.size) (n3 : c3 ≠ b) (l3 : c3 < w.heap.size) (hs : s.size ≤ 1099511627) (hat : st.at_ ≤ s.size) :
    Calls Tryz.prog 132 #[.pointer (some ⟨b, 0, none⟩), .pointer (some ⟨c1, 0, none⟩), .pointer (some ⟨c2, 0, none⟩), .pointer (some ⟨c3, 0, none⟩)] w (Took w b s (Stm.stepP (L s) (.name 0) st)) := by
  obtain ⟨R, hR⟩ := name_it (Stm.stepP (L s) (.name 0) st)
  rw [hR.out]
  obtain ⟨t, ht⟩ := name_it ((L s).drop st.at_)
  have HS := Lib.hid (Rd.start h)
  have HE := Lib.hid hE
  have H6 := Lib.hid hb6
  have s0 := HS.out.s
  have s1 := HS.out.at
  obtain ⟨a0, ha0⟩ := name_it st.at_
  rw [ha0.out] at s1 hat ht
  have hai : (a0 : Int) ≤ s.size := by omega
  have hex : L (s.extract a0 s.size) = t := by rw [extract_tail, L_bs]; exact ht.out
  have HX := Lib.hid hex
  clear hex h hE hb6
  go_enter Tryz.func132, Tryz.ntmps132
  go_wp2_with fail
  go_loopw [6, 7, 10] (fun _ _ i wq => ∃ n : Nat, n ≤ 7 ∧ i = .int .i64 n ∧ Hid (Stm.firstOf t (Stm.shortN.drop n) n = Stm.firstOf t Stm.shortN 0) ∧ Hid (Rd w wq b s st)) (fun _ _ i _ => 7 - (intOf i).toNat)
  case atStart => exact ⟨0, by omega, rfl, rfl, HS⟩
  case round =>
    obtain ⟨n, hn, rfl, hn1, A⟩ := hrel
    have q2 : wr.cell? ⟨c2, 0, none⟩ = some (.int .i64 3) := by rw [A.out.but.cell c2 0 n2 l2]; exact hc2
    have q3 : wr.cell? ⟨c3, 0, none⟩ = some (.func (.func 104) #[] #[]) := by rw [A.out.but.cell c3 0 n3 l3]; exact hc3
    have hs0 := A.out.s
    have hs1 := A.out.at
    have g1 := A.out.cells.free 1
    rw [ha0.out] at hs1
    by_cases hlt : n < 7
    · have hni : (n : Int) < 7 := by omega
      have hst := Lib.hid (first_step t Stm.shortN n hlt)
      have l9 := short_len n
      have hcell := (HE.out.but A.out.but A.out.below H6.out).week n hlt
      have hso := short_of n hlt
      obtain ⟨y, hy⟩ := name_it (bs (Stm.longN.getD n []))
      rw [hy.out] at hcell hso
      obtain ⟨hso1, hso2⟩ := hso
      obtain ⟨x, hx⟩ := name_it (bs (Stm.shortN.getD n []))
      rw [hx.out] at hso1
      have hso1' : y.extract 0 3 = x := hso1.symm
      clear hso1
      have zx : x.size ≤ 9 := by rw [← hx.out, size_bs]; exact l9
      have hLx : Hid (Stm.shortN.getD n [] = L x) := by rw [← hx.out]; rfl
      clear l9
      rw [hLx.out] at hst
      obtain ⟨ok, hok⟩ := name_it ((L x).isPrefixOf t)
      rw [hok.out] at hst
      have hpf : ∀ (wx : World) (q : Nat), Calls Tryz.prog 61 #[.string (s.extract a0 s.size), .string x] (wx.drewN q) fun e w' => e = .returned (.bool ok) ∧ ∃ m, w' = wx.drewN m := by
        intro wx q
        have hv : Lib.hasPrefix (s.extract a0 s.size).data.toList x.data.toList = ok := by
          rw [← hok.out, ← HX.out]; rfl
        rw [← hv]
        exact Calls.quiet_of_same (Tryz.strings_HasPrefix _ _ _)
      have HPF := Lib.hid hpf
      clear hpf hx
      cases ok
      · have hnx : Hid (Stm.firstOf t (Stm.shortN.drop (n + 1)) (n + 1) = Stm.firstOf t Stm.shortN 0) := by rw [← hn1.out, hst.out]; rfl
        clear hst hn1 hok
        go_wp2_with fail
        all_goals (try (exfalso; omega))
        go_quiet ((go_at_call 61; first | (with_reducible exact HPF.out _ _)))
        go_wp2_with fail
        go_roundw
        case rel => exact ⟨n + 1, by omega, by go_num, hnx, A.out.drewN _⟩
        case measure => simp [intOf]; omega
      · have hfo : Hid (Stm.firstOf ((L s).drop st.at_) (Stm.namesOf 0) 0 = some (n, L x)) := by
          rw [ha0.out, ht.out, show Stm.namesOf 0 = Stm.shortN from rfl, ← hn1.out, hst.out]; rfl
        have hr : Hid (R = (Stm.setName 0 n { st with at_ := a0 + x.size }, true)) := by
          rw [← hR.out, step_name_some hfo.out, L_length, ha0.out]; rfl
        have hle : a0 + x.size ≤ s.size := by
          have := first_le (L s) st.at_ 0 n (L x) hfo.out (by rw [ha0.out, L_length]; exact hat)
          rw [ha0.out, L_length, L_length] at this; exact this
        have hlei : (a0 : Int) + (x.size : Int) ≤ s.size := by omega
        have A2 : Hid (∀ r, Rd w ((wr.drewN r).setCell ⟨b, 1, none⟩ (.int .i64 ((a0 : Int) + x.size))) b s { st with at_ := a0 + x.size }) := fun r => (A.out.drewN r).set 1 (by decide) _ rfl
        clear hst hn1 hok hfo
        go_wp2_with fail
        all_goals (try (exfalso; omega))
        go_quiet ((go_at_call 61; first | (with_reducible exact HPF.out _ _)))
        go_wp2_with fail
        all_goals (try (exfalso; omega))
        refine (set_wd b s { st with at_ := a0 + x.size } n _ (A2.out _).cells).mono ?_; rintro e' w1 ⟨rfl, hR1⟩
        have A1 := Lib.hid ((A2.out _).trans hR1)
        go_wp2_with fail
        go_ret
        exact Took.of hr A1.out
    · obtain rfl : n = 7 := by omega
      have hfo : Hid (Stm.firstOf ((L s).drop st.at_) (Stm.namesOf 0) 0 = none) := by
        rw [ha0.out, ht.out, show Stm.namesOf 0 = Stm.shortN from rfl, ← hn1.out]; rfl
      have hr : Hid (R = (st, false)) := by rw [← hR.out, step_name_none hfo.out]; rfl
      clear hn1
      go_wp2_with fail
      all_goals (try (exfalso; omega))
      go_ret
      exact Took.of hr A.out

set_option maxRecDepth 100000 in
theorem name1_any (b c1 c2 c3 : Nat) (s : ByteArray) (st : Stm.St) (w : World) (hE : EnvS w) (h : CellsAt w b (rdCells s st)) (hb6 : 8 ≤ b)
    (hc1 : w.cell? ⟨c1, 0, none⟩ = some (.slice (some ⟨0, 0, none⟩) 7 7)) (hc2 : w.cell? ⟨c2, 0, none⟩ = some (.int .i64 0)) (hc3 : w.cell? ⟨c3, 0, none⟩ = some (.func (.func 104) #[] #[]))
    (_n1 : c1 ≠ b) (_l1 : c1 < w.heap.size) (n2 : c2 ≠ b) (l2 : c2 < w.heap.size) (n3 : c3 ≠ b) (l3 : c3 < w.heap.size) (hs : s.size ≤ 1099511627) (hat : st.at_ ≤ s.size) :
    Calls Tryz.prog 132 #[.pointer (some ⟨b, 0, none⟩), .pointer (some ⟨c1, 0, none⟩), .pointer (some ⟨c2, 0, none⟩), .pointer (some ⟨c3, 0, none⟩)] w (Took w b s (Stm.stepP (L s) (.name 1) st)) := by
  obtain ⟨R, hR⟩ := name_it (Stm.stepP (L s) (.name 1) st)
  rw [hR.out]
  obtain ⟨t, ht⟩ := name_it ((L s).drop st.at_)
  have HS := Lib.hid (Rd.start h)
  have HE := Lib.hid hE
  have H6 := Lib.hid hb6
  have s0 := HS.out.s
  have s1 := HS.out.at
  obtain ⟨a0, ha0⟩ := name_it st.at_
  rw [ha0.out] at s1 hat ht
  have hai : (a0 : Int) ≤ s.size := by omega
  have hex : L (s.extract a0 s.size) = t := by rw [extract_tail, L_bs]; exact ht.out
  have HX := Lib.hid hex
  clear hex h hE hb6
  go_enter Tryz.func132, Tryz.ntmps132
  go_wp2_with fail
  go_loopw [6, 7, 10] (fun _ _ i wq => ∃ n : Nat, n ≤ 7 ∧ i = .int .i64 n ∧ Hid (Stm.firstOf t (Stm.longN.drop n) n = Stm.firstOf t Stm.longN 0) ∧ Hid (Rd w wq b s st)) (fun _ _ i _ => 7 - (intOf i).toNat)
  case atStart => exact ⟨0, by omega, rfl, rfl, HS⟩
  case round =>
    obtain ⟨n, hn, rfl, hn1, A⟩ := hrel
    have q2 : wr.cell? ⟨c2, 0, none⟩ = some (.int .i64 0) := by rw [A.out.but.cell c2 0 n2 l2]; exact hc2
    have q3 : wr.cell? ⟨c3, 0, none⟩ = some (.func (.func 104) #[] #[]) := by rw [A.out.but.cell c3 0 n3 l3]; exact hc3
    have hs0 := A.out.s
    have hs1 := A.out.at
    have g1 := A.out.cells.free 1
    rw [ha0.out] at hs1
    by_cases hlt : n < 7
    · have hni : (n : Int) < 7 := by omega
      have hst := Lib.hid (first_step t Stm.longN n hlt)
      have l9 := long_len n
      have hcell := (HE.out.but A.out.but A.out.below H6.out).week n hlt
      obtain ⟨x, hx⟩ := name_it (bs (Stm.longN.getD n []))
      rw [hx.out] at hcell
      have zx : x.size ≤ 9 := by rw [← hx.out, size_bs]; exact l9
      have hLx : Hid (Stm.longN.getD n [] = L x) := by rw [← hx.out]; rfl
      clear l9
      rw [hLx.out] at hst
      obtain ⟨ok, hok⟩ := name_it ((L x).isPrefixOf t)
      rw [hok.out] at hst
      have hpf : ∀ (wx : World) (q : Nat), Calls Tryz.prog 61 #[.string (s.extract a0 s.size), .string x] (wx.drewN q) fun e w' => e = .returned (.bool ok) ∧ ∃ m, w' = wx.drewN m := by
        intro wx q
        have hv : Lib.hasPrefix (s.extract a0 s.size).data.toList x.data.toList = ok := by
          rw [← hok.out, ← HX.out]; rfl
        rw [← hv]
        exact Calls.quiet_of_same (Tryz.strings_HasPrefix _ _ _)
      have HPF := Lib.hid hpf
      clear hpf hx
      cases ok
      · have hnx : Hid (Stm.firstOf t (Stm.longN.drop (n + 1)) (n + 1) = Stm.firstOf t Stm.longN 0) := by rw [← hn1.out, hst.out]; rfl
        clear hst hn1 hok
        go_wp2_with fail
        all_goals (try (exfalso; omega))
        go_quiet ((go_at_call 61; first | (with_reducible exact HPF.out _ _)))
        go_wp2_with fail
        go_roundw
        case rel => exact ⟨n + 1, by omega, by go_num, hnx, A.out.drewN _⟩
        case measure => simp [intOf]; omega
      · have hfo : Hid (Stm.firstOf ((L s).drop st.at_) (Stm.namesOf 1) 0 = some (n, L x)) := by
          rw [ha0.out, ht.out, show Stm.namesOf 1 = Stm.longN from rfl, ← hn1.out, hst.out]; rfl
        have hr : Hid (R = (Stm.setName 1 n { st with at_ := a0 + x.size }, true)) := by
          rw [← hR.out, step_name_some hfo.out, L_length, ha0.out]; rfl
        have hle : a0 + x.size ≤ s.size := by
          have := first_le (L s) st.at_ 1 n (L x) hfo.out (by rw [ha0.out, L_length]; exact hat)
          rw [ha0.out, L_length, L_length] at this; exact this
        have hlei : (a0 : Int) + (x.size : Int) ≤ s.size := by omega
        have A2 : Hid (∀ r, Rd w ((wr.drewN r).setCell ⟨b, 1, none⟩ (.int .i64 ((a0 : Int) + x.size))) b s { st with at_ := a0 + x.size }) := fun r => (A.out.drewN r).set 1 (by decide) _ rfl
        clear hst hn1 hok hfo
        go_wp2_with fail
        all_goals (try (exfalso; omega))
        go_quiet ((go_at_call 61; first | (with_reducible exact HPF.out _ _)))
        go_wp2_with fail
        all_goals (try (exfalso; omega))
        refine (set_wd b s { st with at_ := a0 + x.size } n _ (A2.out _).cells).mono ?_; rintro e' w1 ⟨rfl, hR1⟩
        have A1 := Lib.hid ((A2.out _).trans hR1)
        go_wp2_with fail
        go_ret
        exact Took.of hr A1.out
    · obtain rfl : n = 7 := by omega
      have hfo : Hid (Stm.firstOf ((L s).drop st.at_) (Stm.namesOf 1) 0 = none) := by
        rw [ha0.out, ht.out, show Stm.namesOf 1 = Stm.longN from rfl, ← hn1.out]; rfl
      have hr : Hid (R = (st, false)) := by rw [← hR.out, step_name_none hfo.out]; rfl
      clear hn1
      go_wp2_with fail
      all_goals (try (exfalso; omega))
      go_ret
      exact Took.of hr A.out

set_option maxRecDepth 100000 in
theorem name2_any (b c1 c2 c3 : Nat) (s : ByteArray) (st : Stm.St) (w : World) (hE : EnvS w) (h : CellsAt w b (rdCells s st)) (hb6 : 8 ≤ b)
    (hc1 : w.cell? ⟨c1, 0, none⟩ = some (.slice (some ⟨1, 0, none⟩) 12 12)) (hc2 : w.cell? ⟨c2, 0, none⟩ = some (.int .i64 0)) (hc3 : w.cell? ⟨c3, 0, none⟩ = some (.func (.func 106) #[] #[]))
    (_n1 : c1 ≠ b) (_l1 : c1 < w.heap.size) (n2 : c2 ≠ b) (l2 : c2 < w.heap.size) (n3 : c3 ≠ b) (l3 : c3 < w.heap.size) (hs : s.size ≤ 1099511627) (hat : st.at_ ≤ s.size) :
    Calls Tryz.prog 132 #[.pointer (some ⟨b, 0, none⟩), .pointer (some ⟨c1, 0, none⟩), .pointer (some ⟨c2, 0, none⟩), .pointer (some ⟨c3, 0, none⟩)] w (Took w b s (Stm.stepP (L s) (.name 2) st)) := by
  obtain ⟨R, hR⟩ := name_it (Stm.stepP (L s) (.name 2) st)
  rw [hR.out]
  obtain ⟨t, ht⟩ := name_it ((L s).drop st.at_)
  have HS := Lib.hid (Rd.start h)
  have HE := Lib.hid hE
  have H6 := Lib.hid hb6
  have s0 := HS.out.s
  have s1 := HS.out.at
  obtain ⟨a0, ha0⟩ := name_it st.at_
  rw [ha0.out] at s1 hat ht
  have hai : (a0 : Int) ≤ s.size := by omega
  have hex : L (s.extract a0 s.size) = t := by rw [extract_tail, L_bs]; exact ht.out
  have HX := Lib.hid hex
  clear hex h hE hb6
  go_enter Tryz.func132, Tryz.ntmps132
  go_wp2_with fail
  go_loopw [6, 7, 10] (fun _ _ i wq => ∃ n : Nat, n ≤ 12 ∧ i = .int .i64 n ∧ Hid (Stm.firstOf t (Stm.monN.drop n) n = Stm.firstOf t Stm.monN 0) ∧ Hid (Rd w wq b s st)) (fun _ _ i _ => 12 - (intOf i).toNat)
  case atStart => exact ⟨0, by omega, rfl, rfl, HS⟩
  case round =>
    obtain ⟨n, hn, rfl, hn1, A⟩ := hrel
    have q2 : wr.cell? ⟨c2, 0, none⟩ = some (.int .i64 0) := by rw [A.out.but.cell c2 0 n2 l2]; exact hc2
    have q3 : wr.cell? ⟨c3, 0, none⟩ = some (.func (.func 106) #[] #[]) := by rw [A.out.but.cell c3 0 n3 l3]; exact hc3
    have hs0 := A.out.s
    have hs1 := A.out.at
    have g1 := A.out.cells.free 1
    rw [ha0.out] at hs1
    by_cases hlt : n < 12
    · have hni : (n : Int) < 12 := by omega
      have hst := Lib.hid (first_step t Stm.monN n hlt)
      have l9 := mon_len n
      have hcell := (HE.out.but A.out.but A.out.below H6.out).mon n hlt
      obtain ⟨x, hx⟩ := name_it (bs (Stm.monN.getD n []))
      rw [hx.out] at hcell
      have zx : x.size ≤ 9 := by rw [← hx.out, size_bs]; exact l9
      have hLx : Hid (Stm.monN.getD n [] = L x) := by rw [← hx.out]; rfl
      clear l9
      rw [hLx.out] at hst
      obtain ⟨ok, hok⟩ := name_it ((L x).isPrefixOf t)
      rw [hok.out] at hst
      have hpf : ∀ (wx : World) (q : Nat), Calls Tryz.prog 61 #[.string (s.extract a0 s.size), .string x] (wx.drewN q) fun e w' => e = .returned (.bool ok) ∧ ∃ m, w' = wx.drewN m := by
        intro wx q
        have hv : Lib.hasPrefix (s.extract a0 s.size).data.toList x.data.toList = ok := by
          rw [← hok.out, ← HX.out]; rfl
        rw [← hv]
        exact Calls.quiet_of_same (Tryz.strings_HasPrefix _ _ _)
      have HPF := Lib.hid hpf
      clear hpf hx
      cases ok
      · have hnx : Hid (Stm.firstOf t (Stm.monN.drop (n + 1)) (n + 1) = Stm.firstOf t Stm.monN 0) := by rw [← hn1.out, hst.out]; rfl
        clear hst hn1 hok
        go_wp2_with fail
        all_goals (try (exfalso; omega))
        go_quiet ((go_at_call 61; first | (with_reducible exact HPF.out _ _)))
        go_wp2_with fail
        go_roundw
        case rel => exact ⟨n + 1, by omega, by go_num, hnx, A.out.drewN _⟩
        case measure => simp [intOf]; omega
      · have hfo : Hid (Stm.firstOf ((L s).drop st.at_) (Stm.namesOf 2) 0 = some (n, L x)) := by
          rw [ha0.out, ht.out, show Stm.namesOf 2 = Stm.monN from rfl, ← hn1.out, hst.out]; rfl
        have hr : Hid (R = (Stm.setName 2 n { st with at_ := a0 + x.size }, true)) := by
          rw [← hR.out, step_name_some hfo.out, L_length, ha0.out]; rfl
        have hle : a0 + x.size ≤ s.size := by
          have := first_le (L s) st.at_ 2 n (L x) hfo.out (by rw [ha0.out, L_length]; exact hat)
          rw [ha0.out, L_length, L_length] at this; exact this
        have hlei : (a0 : Int) + (x.size : Int) ≤ s.size := by omega
        have A2 : Hid (∀ r, Rd w ((wr.drewN r).setCell ⟨b, 1, none⟩ (.int .i64 ((a0 : Int) + x.size))) b s { st with at_ := a0 + x.size }) := fun r => (A.out.drewN r).set 1 (by decide) _ rfl
        clear hst hn1 hok hfo
        go_wp2_with fail
        all_goals (try (exfalso; omega))
        go_quiet ((go_at_call 61; first | (with_reducible exact HPF.out _ _)))
        go_wp2_with fail
        all_goals (try (exfalso; omega))
        refine (set_mo b s { st with at_ := a0 + x.size } n _ (A2.out _).cells (by omega)).mono ?_; rintro e' w1 ⟨rfl, hR1⟩
        have A1 := Lib.hid ((A2.out _).trans hR1)
        go_wp2_with fail
        go_ret
        exact Took.of hr A1.out
    · obtain rfl : n = 12 := by omega
      have hfo : Hid (Stm.firstOf ((L s).drop st.at_) (Stm.namesOf 2) 0 = none) := by
        rw [ha0.out, ht.out, show Stm.namesOf 2 = Stm.monN from rfl, ← hn1.out]; rfl
      have hr : Hid (R = (st, false)) := by rw [← hR.out, step_name_none hfo.out]; rfl
      clear hn1
      go_wp2_with fail
      all_goals (try (exfalso; omega))
      go_ret
      exact Took.of hr A.out
end Go.Proofs.YtjalfddedikibaaGreatDoor
