/- StampOrder, StampOne, StampBack: the walks of the laws. -/
import Derived.Test.YtmfnofpphnlbnaaDoorStampO
namespace Go.Proofs.YtmfnofpphnlbnaaDoor
open Go Go.RowKit
set_option maxHeartbeats 4000000

theorem lex_step {xs ys : List Int} {k : Nat} (hx : k < xs.length) (hy : k < ys.length) : Stm.lexGt (xs.drop k) (ys.drop k) = if xs[k] = ys[k] then Stm.lexGt (xs.drop (k + 1)) (ys.drop (k + 1)) else decide (xs[k] > ys[k]) := by
  rw [List.drop_eq_getElem_cons hx, List.drop_eq_getElem_cons hy]; rfl
set_option maxRecDepth 100000 in
theorem later_any (y mo d h mi s wd y' mo' d' h' mi' s' wd' : Int) (w : World) :
    Calls Tryd.prog 29 #[.agg #[.int .i64 y, .int .i64 mo, .int .i64 d, .int .i64 h, .int .i64 mi, .int .i64 s, .int .i64 wd], .agg #[.int .i64 y', .int .i64 mo', .int .i64 d', .int .i64 h', .int .i64 mi', .int .i64 s', .int .i64 wd']] w fun e w' =>
      e = .returned (.bool (Stm.lexGt [y, mo, d, h, mi, s] [y', mo', d', h', mi', s'])) ∧ Below w.heap.size w w' := by
  obtain ⟨R, hR⟩ := name_it (Stm.lexGt [y, mo, d, h, mi, s] [y', mo', d', h', mi', s'])
  rw [hR.out]
  have s1 : (w.alloc (.cells #[.int .i64 y, .int .i64 mo, .int .i64 d, .int .i64 h, .int .i64 mi, .int .i64 s, .int .i64 wd] 32)).heap.size = w.heap.size + 1 := size_alloc _ _
  go_enter Tryd.func29, Tryd.ntmps29
  go_wp2_with fail
  have W1 : ∃ (wa : World) (b1 b2 : Nat), Hid (CellsAt wa b1 [.int .i64 y, .int .i64 mo, .int .i64 d, .int .i64 h, .int .i64 mi, .int .i64 s]) ∧ Hid (CellsAt wa b2 [.int .i64 y', .int .i64 mo', .int .i64 d', .int .i64 h', .int .i64 mi', .int .i64 s']) ∧ Below w.heap.size w wa ∧
      Hid (((((w.alloc (.cells #[.int .i64 y, .int .i64 mo, .int .i64 d, .int .i64 h, .int .i64 mi, .int .i64 s, .int .i64 wd] 32)).alloc (.cells #[.int .i64 y', .int .i64 mo', .int .i64 d', .int .i64 h', .int .i64 mi', .int .i64 s', .int .i64 wd'] 32)).alloc (.cells #[.int .i64 y, .int .i64 mo, .int .i64 d, .int .i64 h, .int .i64 mi, .int .i64 s] 80)).alloc (.cells #[.int .i64 y', .int .i64 mo', .int .i64 d', .int .i64 h', .int .i64 mi', .int .i64 s'] 80) = wa) ∧ b1 = w.heap.size + 1 + 1 ∧ b2 = w.heap.size + 1 + 1 + 1) := by
    have t1 := size_alloc w (.cells #[.int .i64 y, .int .i64 mo, .int .i64 d, .int .i64 h, .int .i64 mi, .int .i64 s, .int .i64 wd] 32)
    have t2 := size_alloc (w.alloc (.cells #[.int .i64 y, .int .i64 mo, .int .i64 d, .int .i64 h, .int .i64 mi, .int .i64 s, .int .i64 wd] 32)) (.cells #[.int .i64 y', .int .i64 mo', .int .i64 d', .int .i64 h', .int .i64 mi', .int .i64 s', .int .i64 wd'] 32)
    have t3 := size_alloc ((w.alloc (.cells #[.int .i64 y, .int .i64 mo, .int .i64 d, .int .i64 h, .int .i64 mi, .int .i64 s, .int .i64 wd] 32)).alloc (.cells #[.int .i64 y', .int .i64 mo', .int .i64 d', .int .i64 h', .int .i64 mi', .int .i64 s', .int .i64 wd'] 32)) (.cells #[.int .i64 y, .int .i64 mo, .int .i64 d, .int .i64 h, .int .i64 mi, .int .i64 s] 80)
    have a3 := (CellsAt.first ((w.alloc (.cells #[.int .i64 y, .int .i64 mo, .int .i64 d, .int .i64 h, .int .i64 mi, .int .i64 s, .int .i64 wd] 32)).alloc (.cells #[.int .i64 y', .int .i64 mo', .int .i64 d', .int .i64 h', .int .i64 mi', .int .i64 s', .int .i64 wd'] 32)) [.int .i64 y, .int .i64 mo, .int .i64 d, .int .i64 h, .int .i64 mi, .int .i64 s] 80).next ((Below.refl _ _).alloc (Nat.le_refl _) (.cells #[.int .i64 y', .int .i64 mo', .int .i64 d', .int .i64 h', .int .i64 mi', .int .i64 s'] 80))
    have a4 := CellsAt.first (((w.alloc (.cells #[.int .i64 y, .int .i64 mo, .int .i64 d, .int .i64 h, .int .i64 mi, .int .i64 s, .int .i64 wd] 32)).alloc (.cells #[.int .i64 y', .int .i64 mo', .int .i64 d', .int .i64 h', .int .i64 mi', .int .i64 s', .int .i64 wd'] 32)).alloc (.cells #[.int .i64 y, .int .i64 mo, .int .i64 d, .int .i64 h, .int .i64 mi, .int .i64 s] 80)) [.int .i64 y', .int .i64 mo', .int .i64 d', .int .i64 h', .int .i64 mi', .int .i64 s'] 80
    rw [t2, t1] at a3
    rw [t3, t2, t1] at a4
    have c1 := (Below.refl w.heap.size w).alloc (Nat.le_refl _) (.cells #[.int .i64 y, .int .i64 mo, .int .i64 d, .int .i64 h, .int .i64 mi, .int .i64 s, .int .i64 wd] 32)
    have c2 := c1.alloc c1.size (.cells #[.int .i64 y', .int .i64 mo', .int .i64 d', .int .i64 h', .int .i64 mi', .int .i64 s', .int .i64 wd'] 32)
    have c3 := c2.alloc c2.size (.cells #[.int .i64 y, .int .i64 mo, .int .i64 d, .int .i64 h, .int .i64 mi, .int .i64 s] 80)
    have c4 := c3.alloc c3.size (.cells #[.int .i64 y', .int .i64 mo', .int .i64 d', .int .i64 h', .int .i64 mi', .int .i64 s'] 80)
    exact ⟨_, _, _, a3, a4, c4, rfl, rfl, rfl⟩
  obtain ⟨wa, b1, b2, A1, A2, hb, HW⟩ := W1
  rw [HW.out.1, ← HW.out.2.2, ← HW.out.2.1]
  clear HW s1
  obtain ⟨xs, hxs⟩ := name_it [y, mo, d, h, mi, s]
  obtain ⟨ys, hys⟩ := name_it [y', mo', d', h', mi', s']
  have X1 : Hid (∀ wx, CellsAt wx b1 [.int .i64 y, .int .i64 mo, .int .i64 d, .int .i64 h, .int .i64 mi, .int .i64 s] → ∀ k (hk : k < xs.length), wx.cell? ⟨b1, k, none⟩ = some (.int .i64 xs[k])) := by
    intro wx hx k hk
    have := hx.cell k (by rw [← hxs.out] at hk; simpa using hk)
    rw [this]
    congr 1
    have e : ([.int .i64 y, .int .i64 mo, .int .i64 d, .int .i64 h, .int .i64 mi, .int .i64 s] : List Value) = xs.map (Value.int .i64) := by rw [← hxs.out]; rfl
    simp only [e, List.getElem_map]
  have X2 : Hid (∀ wx, CellsAt wx b2 [.int .i64 y', .int .i64 mo', .int .i64 d', .int .i64 h', .int .i64 mi', .int .i64 s'] → ∀ k (hk : k < ys.length), wx.cell? ⟨b2, k, none⟩ = some (.int .i64 ys[k])) := by
    intro wx hx k hk
    have := hx.cell k (by rw [← hys.out] at hk; simpa using hk)
    rw [this]
    congr 1
    have e : ([.int .i64 y', .int .i64 mo', .int .i64 d', .int .i64 h', .int .i64 mi', .int .i64 s'] : List Value) = ys.map (Value.int .i64) := by rw [← hys.out]; rfl
    simp only [e, List.getElem_map]
  have l1 : Hid (xs.length = 6 ∧ ys.length = 6) := by rw [← hxs.out, ← hys.out]; exact ⟨rfl, rfl⟩
  have hR2 : Hid (Stm.lexGt (xs.drop 0) (ys.drop 0) = R) := by rw [← hxs.out, ← hys.out]; exact hR
  clear hR hxs hys
  go_wp2_with fail
  go_loopw [7, 34] (fun _ i wq => ∃ k : Nat, k ≤ 6 ∧ i = .int .i64 k ∧ Hid (Stm.lexGt (xs.drop k) (ys.drop k) = R) ∧ Hid (CellsAt wq b1 [.int .i64 y, .int .i64 mo, .int .i64 d, .int .i64 h, .int .i64 mi, .int .i64 s]) ∧ Hid (CellsAt wq b2 [.int .i64 y', .int .i64 mo', .int .i64 d', .int .i64 h', .int .i64 mi', .int .i64 s']) ∧ Below w.heap.size w wq) (fun _ i _ => 6 - (intOf i).toNat)
  case atStart => exact ⟨0, by omega, rfl, hR2, A1, A2, hb⟩
  case round =>
    obtain ⟨k, hk, rfl, hr, B1, B2, hbr⟩ := hrel
    clear hR2 A1 A2
    by_cases hlt : k < 6
    · have hkx : k < xs.length := by rw [l1.out.1]; exact hlt
      have hky : k < ys.length := by rw [l1.out.2]; exact hlt
      have c1 := X1.out wr B1.out k hkx
      have c2 := X2.out wr B2.out k hky
      have hst := Lib.hid (lex_step hkx hky)
      obtain ⟨p, hp⟩ := name_it xs[k]
      obtain ⟨q, hq⟩ := name_it ys[k]
      rw [hp.out] at c1 hst
      rw [hq.out] at c2 hst
      have hki : (0 : Int) ≤ (k : Int) := by omega
      have hki2 : (k : Int) < 6 := by omega
      clear hp hq
      by_cases hpq : p = q
      · have e1 : (p == q) = true := by simp [hpq]
        have e2 : (p != q) = false := by simp [hpq]
        have hn : Hid (Stm.lexGt (xs.drop (k + 1)) (ys.drop (k + 1)) = R) := by rw [← hr.out, hst.out, if_pos hpq]; rfl
        clear hst hr hpq
        go_wp2_with fail
        go_quiet (fail)
        go_wp2_with fail
        go_roundw
        case rel => exact ⟨k + 1, by omega, by go_num, hn, B1.out.drewN _, B2.out.drewN _, below_drewN hbr _⟩
        case measure => simp [intOf]; omega
      · have e1 : (p == q) = false := by simp [hpq]
        have e2 : (p != q) = true := by simp [hpq]
        have hn : Hid (decide (q < p) = R) := by rw [← hr.out, hst.out, if_neg hpq]; rfl
        clear hst hr hpq
        go_wp2_with fail
        go_quiet (fail)
        go_wp2_with fail
        go_quiet (fail)
        go_wp2_with fail
        go_ret
        exact ⟨by rw [← hn.out]; rfl, by first | exact below_drewN hbr _ | exact below_drewN (below_drewN hbr _) _⟩
    · obtain rfl : k = 6 := by omega
      have hn : Hid (R = false) := by
        rw [← hr.out, List.drop_of_length_le (by rw [l1.out.1]; exact Nat.le_refl _)]; rfl
      go_wp2_with fail
      go_ret
      exact ⟨by rw [hn.out]; rfl, hbr⟩
end Go.Proofs.YtmfnofpphnlbnaaDoor
