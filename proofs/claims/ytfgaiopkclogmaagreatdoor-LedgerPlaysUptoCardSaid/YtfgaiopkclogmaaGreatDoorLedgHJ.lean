/- Contracts of the document's ledger: a fixed text that must stand at a place. -/
import Derived.Test.YtfgaiopkclogmaaGreatDoorLedgCJ
namespace Go.Proofs.YtfgaiopkclogmaaGreatDoor
open Go Go.RowKit
set_option maxHeartbeats 4000000

set_option maxRecDepth 100000 in
theorem rtext_any (s text : ByteArray) (n : Nat) (w : World) (hn : n ≤ s.size) (hs : s.size ≤ 1073741824) (ht : text.size ≤ 1000) :
    Calls Tryz.prog 38 #[.string s, .int .i64 n, .string text] w fun e w' => e = .returned (.tuple #[.int .i64 (litS (L s) (L text) (n, false)).1, .bool (!(litS (L s) (L text) (n, false)).2)]) ∧ Below w.heap.size w w' := by
  obtain ⟨F, hF⟩ := name_it (litS (L s) (L text) (n, false))
  rw [hF.out]
  go_enter Tryz.func38, Tryz.ntmps38
  go_wp2_with fail
  go_loopw [8] (fun i wr => ∃ k : Nat, k ≤ text.size ∧ i = .int .i64 k ∧ n + k ≤ s.size ∧ Hid (litS (L s) ((L text).drop k) (n + k, false) = F) ∧ Hid (Below w.heap.size w wr)) (fun i _ => text.size - (intOf i).toNat)
  case atStart => exact ⟨0, Nat.zero_le _, rfl, hn, hF, Below.refl _ _⟩
  clear hF
  case round =>
    obtain ⟨k, hk, rfl, hnk, hl, hbr⟩ := hrel
    obtain ⟨wq, hwq⟩ : ∃ wq, wq = wr := ⟨wr, rfl⟩
    subst hwq
    obtain ⟨p, hp⟩ : ∃ p, p = n + k := ⟨_, rfl⟩
    rw [← hp] at hnk hl
    have HP := Lib.hid hp
    clear hp
    have w1 : IntKind.i64.wrap ((n : Int) + (k : Int)) = (p : Int) := by have := HP.out; rw [show (n : Int) + (k : Int) = (p : Int) by omega]; exact IntWalk.i64_in _ (by omega)
    by_cases hlt : k < text.size
    · have hl2 := hl.out
      rw [L_drop hlt, litS, if_neg nf] at hl2
      have q0 : (0 : Int) ≤ (p : Int) := by omega
      have q3 : (0 : Int) ≤ (k : Int) := by omega
      have q4 : (k : Int) < (text.size : Int) := by omega
      by_cases h1 : p < s.size
      · have d1 : decide ((s.size : Int) ≤ (p : Int)) = false := decide_eq_false (by omega)
        have d1n : decide (s.size ≤ p) = false := decide_eq_false (by omega)
        have q1 : (p : Int) < (s.size : Int) := by omega
        have hg : (L s)[p]? = some s[p] := by rw [List.getElem?_eq_getElem (by rw [L_length]; exact h1)]; rfl
        rw [hg] at hl2
        by_cases he : s[p] = text[k]
        · have e1 : ((s[p].toNat : Int) != (text[k].toNat : Int)) = false := by rw [he]; simp
          rw [if_pos (by rw [he])] at hl2
          have HL := Lib.hid hl2
          clear hl2 hg hl he
          go_wp2_with fail
          go_quiet (fail)
          clear w1
          go_wp2_with fail
          go_roundw
          case rel =>
            have := HP.out
            exact ⟨k + 1, by omega, by go_num, by omega, by rw [show n + (k + 1) = p + 1 by omega]; exact HL, below_drewN hbr.out _⟩
          case measure => simp [intOf]; omega
        · have e1 : ((s[p].toNat : Int) != (text[k].toNat : Int)) = true := by
            rw [bne_iff_ne]
            intro e
            exact he (UInt8.toNat_inj.1 (by omega))
          rw [if_neg (fun e => he (by injection e with e))] at hl2
          have hf := Lib.hid hl2.symm
          clear hl2 hg hl he
          go_wp2_with fail
          go_quiet (fail)
          go_wp2_with fail
          go_ret2
          rw [hf.out]
          exact ⟨rfl, below_drewN hbr.out _⟩
      · have d1 : decide ((s.size : Int) ≤ (p : Int)) = true := decide_eq_true (by omega)
        have d1n : decide (s.size ≤ p) = true := decide_eq_true (by omega)
        rw [if_neg (by rw [List.getElem?_eq_none (by rw [L_length]; omega)]; intro e; cases e)] at hl2
        have hf := Lib.hid hl2.symm
        clear hl2 hl
        go_wp2_with fail
        go_quiet (fail)
        go_wp2_with fail
        go_ret2
        rw [hf.out]
        exact ⟨rfl, below_drewN hbr.out _⟩
    · obtain rfl : k = text.size := by omega
      have hf : Hid (F = (p, false)) := by
        have := hl.out
        rw [L_drop_all] at this
        exact this.symm
      clear hl w1
      go_wp2_with fail
      go_ret2
      rw [hf.out]
      refine ⟨?_, hbr.out⟩
      have := HP.out
      rw [show ((p : Nat) : Int) = (n : Int) + (text.size : Int) by omega]
      rfl
/-- the digits at the front, as the document reads them: it stops where a digit may not stand -/
def numD : List UInt8 → Int → Nat → Int × Nat
  | [], v, k => (v, k)
  | c :: r, v, k =>
    if isDig c = true then
      if (k = 1 ∧ v = 0) ∨ (mostI - dg c) / 10 < v then (v, k) else numD r (10 * v + dg c) (k + 1)
    else (v, k)
/-- where the program's reader goes wrong behind a digit, the document's stops at a digit -/
theorem numD_spec : ∀ (r : List UInt8) (v : Int) (k : Nat), 0 ≤ v → (v = 0 → k ≤ 1) →
    (numD r v k).2 = (numK r v k).2.1 ∧ ((numK r v k).2.2 = false → (numD r v k).1 = (numK r v k).1 ∧ 0 < (numD r v k).2) ∧ ((numK r v k).2.2 = true → (numD r v k).2 = 0 ∨ ∃ c r', r.drop ((numD r v k).2 - k) = c :: r' ∧ isDig c = true)
  | [], v, k, h0, hv => by
    refine ⟨rfl, fun h => ⟨rfl, ?_⟩, fun h => Or.inl ?_⟩
    · have h : decide (k = 0) = false := h
      have := of_decide_eq_false h
      show 0 < k; omega
    · have h : decide (k = 0) = true := h
      exact of_decide_eq_true h
  | c :: r, v, k, h0, hv => by
    rw [numD, numK]
    by_cases hd : isDig c = true
    · rw [if_pos hd, if_pos hd]
      have hb := dg_bd hd
      by_cases hbad : (0 < k ∧ v = 0) ∨ (mostI - dg c) / 10 < v
      · have hbad2 : (k = 1 ∧ v = 0) ∨ (mostI - dg c) / 10 < v := by
          rcases hbad with ⟨h1, h2⟩ | h
          · exact Or.inl ⟨by have := hv h2; omega, h2⟩
          · exact Or.inr h
        rw [if_pos hbad, if_pos hbad2]
        refine ⟨rfl, fun h => Bool.noConfusion (show true = false from h), fun _ => Or.inr ⟨c, r, ?_, hd⟩⟩
        show (c :: r).drop (k - k) = _
        rw [Nat.sub_self]; rfl
      · have hbad2 : ¬ ((k = 1 ∧ v = 0) ∨ (mostI - dg c) / 10 < v) := by
          rintro (⟨h1, h2⟩ | h)
          · exact hbad (Or.inl ⟨by omega, h2⟩)
          · exact hbad (Or.inr h)
        rw [if_neg hbad, if_neg hbad2]
        have hz : 10 * v + dg c = 0 → k + 1 ≤ 1 := by
          intro h
          have hv0 : v = 0 := by omega
          have hk : ¬ 0 < k := fun hk => hbad (Or.inl ⟨hk, hv0⟩)
          omega
        obtain ⟨i1, i2, i3⟩ := numD_spec r (10 * v + dg c) (k + 1) (by omega) hz
        have hle := (numK_le r (10 * v + dg c) (k + 1)).1
        refine ⟨i1, i2, fun h => ?_⟩
        rcases i3 h with h1 | ⟨b, r', h1, h2⟩
        · omega
        · refine Or.inr ⟨b, r', ?_, h2⟩
          rw [show (numD r (10 * v + dg c) (k + 1)).2 - k = ((numD r (10 * v + dg c) (k + 1)).2 - (k + 1)) + 1 by omega, List.drop_succ_cons]
          exact h1
    · rw [if_neg hd, if_neg hd]
      refine ⟨rfl, fun h => ⟨rfl, ?_⟩, fun h => Or.inl ?_⟩
      · have h : decide (k = 0) = false := h
        have := of_decide_eq_false h
        show 0 < k; omega
      · have h : decide (k = 0) = true := h
        exact of_decide_eq_true h

set_option maxRecDepth 100000 in
theorem rnumber_any (s : ByteArray) (n0 : Nat) (w : World) (hn : n0 ≤ s.size) (hs : s.size ≤ 1073741824) :
    Calls Tryz.prog 39 #[.string s, .int .i64 n0] w fun e w' => e = .returned (.tuple #[.int .i64 (numD ((L s).drop n0) 0 0).1, .int .i64 ((n0 + (numD ((L s).drop n0) 0 0).2 : Nat) : Int), .bool (decide (0 < (numD ((L s).drop n0) 0 0).2))]) ∧ Below w.heap.size w w' := by
  obtain ⟨Q, hQ⟩ := name_it (numD ((L s).drop n0) 0 0)
  rw [hQ.out]
  go_enter Tryz.func39, Tryz.ntmps39
  go_wp2_with fail
  go_loopw [7, 8, 9] (fun v i _ wr => ∃ (j : Nat) (x : Int), n0 + j ≤ s.size ∧ v = .int .i64 x ∧ i = .int .i64 ((n0 + j : Nat) : Int) ∧ 0 ≤ x ∧ x ≤ 9223372036854775807 ∧ Hid (numD ((L s).drop (n0 + j)) x j = Q) ∧ Hid (Below w.heap.size w wr)) (fun _ i _ _ => s.size + 1 - (intOf i).toNat)
  case atStart => exact ⟨0, 0, hn, rfl, rfl, Int.le_refl _, by omega, hQ, Below.refl _ _⟩
  clear hQ
  case round =>
    obtain ⟨j, x, hnj, rfl, rfl, hx0, hx1, hq, hbr⟩ := hrel
    obtain ⟨wq, hwq⟩ : ∃ wq, wq = wr := ⟨wr, rfl⟩
    subst hwq
    obtain ⟨n, hne⟩ : ∃ n, n = n0 + j := ⟨_, rfl⟩
    rw [← hne] at hnj hq ⊢
    have HN := Lib.hid hne
    have hjn : j = 1 ↔ n = n0 + 1 := by omega
    have HJN := Lib.hid hjn
    have hj0 : 0 < j ↔ n0 < n := by omega
    have HJ0 := Lib.hid hj0
    have q0 : n0 ≤ n := by omega
    clear hne hjn hj0
    have fin : ∀ y : Int, Hid (Q = (y, j)) → Hid ((.tuple #[.int .i64 y, .int .i64 (n : Int), .bool (decide (n0 < n))] : Value) = .tuple #[.int .i64 Q.1, .int .i64 ((n0 + Q.2 : Nat) : Int), .bool (decide (0 < Q.2))]) := by
      intro y hy
      unfold Hid
      rw [hy.out]
      have h1 := HN.out
      have h2 := HJ0.out
      rw [show decide (n0 < n) = decide (0 < j) by rw [Bool.eq_iff_iff, decide_eq_true_eq, decide_eq_true_eq]; omega]
      show _ = Value.tuple #[.int .i64 y, .int .i64 ((n0 + j : Nat) : Int), .bool (decide (0 < j))]
      rw [← h1]
    have FIN := Lib.hid fin
    clear fin
    by_cases h1 : n < s.size
    · have hq2 := hq.out
      rw [L_drop h1, numD] at hq2
      have HM := Lib.hid (isdigit_any s[n])
      cases hd : isDig s[n] with
      | true =>
        rw [hd] at HM hq2
        rw [if_pos rfl] at hq2
        have hb := of_decide_eq_true hd
        obtain ⟨D, hD⟩ : ∃ D, dg s[n] = D := ⟨_, rfl⟩
        have hDv : (s[n].toNat : Int) - 48 = D := hD
        have HDV := Lib.hid hDv
        rw [hD] at hq2
        by_cases hbad : (j = 1 ∧ x = 0) ∨ (mostI - D) / 10 < x
        · rw [if_pos hbad] at hq2
          have hf := Lib.hid ((FIN.out x (Lib.hid hq2.symm)).out)
          have hjn := HJN.out
          unfold mostI at hbad
          rw [← hDv] at hbad
          clear hq hq2 hd hD hDv
          go_wp2_with (go_at_call 41; refine (HM.out _).mono ?_; rintro e w' ⟨rfl, rfl⟩)
          all_goals (try (exfalso; omega))
          all_goals
            go_ret3
            rw [← hf.out]
            refine ⟨?_, hbr.out⟩
            first
            | rfl
            | (show Ending.returned (.tuple #[.int .i64 x, .int .i64 (n : Int), .bool (decide ((n0 : Int) < (n0 : Int) + 1))]) = Ending.returned (.tuple #[.int .i64 x, .int .i64 (n : Int), .bool (decide (n0 < n))])
               rw [show decide ((n0 : Int) < (n0 : Int) + 1) = decide (n0 < n) by rw [Bool.eq_iff_iff, decide_eq_true_eq, decide_eq_true_eq]; omega])
        · rw [if_neg hbad] at hq2
          have HQ := Lib.hid hq2
          have hjn := HJN.out
          unfold mostI at hbad
          rw [← hDv] at hbad
          clear hq hq2 hd hD hDv
          go_wp2_with (go_at_call 41; refine (HM.out _).mono ?_; rintro e w' ⟨rfl, rfl⟩)
          all_goals (try (exfalso; omega))
          all_goals
            go_roundw
            case rel =>
              have h1 := HN.out
              have h2 := HDV.out
              refine ⟨j + 1, 10 * x + D, by omega, by rw [← h2], by go_num, by omega, by omega, ?_, hbr⟩
              rw [show n0 + (j + 1) = n + 1 by omega]; exact HQ
            case measure => simp [intOf]; omega
      | false =>
        rw [hd] at HM hq2
        rw [if_neg nf] at hq2
        have hf := Lib.hid ((FIN.out x (Lib.hid hq2.symm)).out)
        clear hq hq2 hd
        go_wp2_with (go_at_call 41; refine (HM.out _).mono ?_; rintro e w' ⟨rfl, rfl⟩)
        go_ret3
        rw [← hf.out]
        exact ⟨rfl, hbr.out⟩
    · have hq2 := hq.out
      rw [List.drop_of_length_le (by rw [L_length]; omega), numD] at hq2
      have hf := Lib.hid ((FIN.out x (Lib.hid hq2.symm)).out)
      clear hq hq2
      go_wp2_with fail
      go_ret3
      rw [← hf.out]
      exact ⟨rfl, hbr.out⟩
end Go.Proofs.YtfgaiopkclogmaaGreatDoor
