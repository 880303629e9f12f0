/- Contracts of the document's name and number. -/
import Derived.Test.YtjalfddedikibaaGreatDoorStampPJ
namespace Go.Proofs.YtjalfddedikibaaGreatDoor
open Go Go.RowKit
set_option maxHeartbeats 2000000

def kindB (k : Nat) : Int := if k = 0 then 119 else if k = 1 then 108 else 109
def cntN (k : Nat) : Nat := if k = 2 then 12 else 7
def nameV (r : Option (Nat × List UInt8)) (a : Nat) : Value :=
  match r with
  | none => .tuple #[.int .i64 (-1), .int .i64 a]
  | some (i, w) => .tuple #[.int .i64 i, .int .i64 ((a : Int) + w.length)]
theorem names_len (k : Nat) (hk : k < 3) : (Stm.namesOf k).length = cntN k := by
  have : k = 0 ∨ k = 1 ∨ k = 2 := by omega
  rcases this with rfl | rfl | rfl <;> rfl
theorem names_len9 (k : Nat) (hk : k < 3) (n : Nat) : ((Stm.namesOf k).getD n []).length ≤ 9 := by
  have : k = 0 ∨ k = 1 ∨ k = 2 := by omega
  rcases this with rfl | rfl | rfl
  · exact short_len n
  · exact long_len n
  · exact mon_len n
theorem first_step (t : List UInt8) (l : List (List UInt8)) (i : Nat) (h : i < l.length) : Stm.firstOf t (l.drop i) i = if (l.getD i []).isPrefixOf t then some (i, l.getD i []) else Stm.firstOf t (l.drop (i + 1)) (i + 1) := by
  rw [List.drop_eq_getElem_cons h]
  have : l.getD i [] = l[i] := by rw [List.getD_eq_getElem?_getD, List.getElem?_eq_getElem h]; rfl
  rw [this]
  rfl

set_option maxRecDepth 100000 in
theorem rname0 (s : ByteArray) (a : Nat) (w : World) (ha : a ≤ s.size) (hs : s.size ≤ 1099511627) :
    Calls Tryz.prog 95 #[.string s, .int .i64 a, .int .i64 7, .int .u8 119] w fun e w' => e = .returned (nameV (Stm.firstOf ((L s).drop a) (Stm.namesOf 0) 0) a) ∧ Below w.heap.size w w' := by
  obtain ⟨t, ht⟩ := name_it ((L s).drop a)
  rw [ht.out, show Stm.namesOf 0 = Stm.shortN from rfl]
  obtain ⟨R, hR⟩ := name_it (Stm.firstOf t Stm.shortN 0)
  rw [hR.out]
  obtain ⟨V, hV⟩ := name_it (nameV R a)
  rw [hV.out]
  go_enter Tryz.func95, Tryz.ntmps95
  go_wp2_with fail
  go_loopw [10, 11] (fun i _ wq => ∃ n : Nat, n ≤ 7 ∧ i = .int .i64 n ∧ Hid (Stm.firstOf t (Stm.shortN.drop n) n = R) ∧ Below w.heap.size w wq) (fun i _ _ => 7 - (intOf i).toNat)
  case atStart => exact ⟨0, by omega, rfl, hR, Below.refl _ _⟩
  case round =>
    obtain ⟨n, hn, rfl, hn1, hbr⟩ := hrel
    by_cases hlt : n < 7
    · have hst := Lib.hid (first_step t Stm.shortN n hlt)
      have l9 := short_len n
      obtain ⟨x, hx⟩ := name_it (Stm.shortN.getD n [])
      rw [hx.out] at hst l9
      have zx : (bs x).size ≤ 9 := by rw [size_bs]; exact l9
      obtain ⟨b, hb⟩ := name_it (x.isPrefixOf t)
      rw [hb.out] at hst
      go_wp2_with fail
      all_goals (try (exfalso; omega))
      refine (rshort_any n _ hlt).mono ?_; rintro e w1 ⟨rfl, hc1⟩
      rw [hx.out]
      go_wp2_with fail
      all_goals (try (exfalso; omega))
      refine (rbegins_b s x a _ ha hs (by omega)).mono ?_; rintro e w2 ⟨rfl, rfl⟩
      rw [ht.out, hb.out]
      have hbw := hbr.trans (hc1.mono hbr.size)
      cases b
      · have hnx : Hid (Stm.firstOf t (Stm.shortN.drop (n + 1)) (n + 1) = R) := by rw [← hn1.out, hst.out]; rfl
        go_wp2_with fail
        go_roundw
        case rel => exact ⟨n + 1, by omega, by go_num, hnx, hbw⟩
        case measure => simp [intOf]; omega
      · have hr : Hid (V = .tuple #[.int .i64 n, .int .i64 ((a : Int) + (bs x).size)]) := by rw [← hV.out, ← hn1.out, hst.out, size_bs]; rfl
        go_wp2_with fail
        all_goals (try (exfalso; omega))
        go_ret2
        exact ⟨by rw [hr.out]; rfl, hbw⟩
    · obtain rfl : n = 7 := by omega
      have hr : Hid (V = .tuple #[.int .i64 (-1), .int .i64 a]) := by
        rw [← hV.out, ← hn1.out]; rfl
      go_wp2_with fail
      all_goals (try (exfalso; omega))
      go_ret2
      exact ⟨by rw [hr.out]; rfl, hbr⟩
set_option maxRecDepth 100000 in
theorem rname1 (s : ByteArray) (a : Nat) (w : World) (ha : a ≤ s.size) (hs : s.size ≤ 1099511627) :
    Calls Tryz.prog 95 #[.string s, .int .i64 a, .int .i64 7, .int .u8 108] w fun e w' => e = .returned (nameV (Stm.firstOf ((L s).drop a) (Stm.namesOf 1) 0) a) ∧ Below w.heap.size w w' := by
  obtain ⟨t, ht⟩ := name_it ((L s).drop a)
  rw [ht.out, show Stm.namesOf 1 = Stm.longN from rfl]
  obtain ⟨R, hR⟩ := name_it (Stm.firstOf t Stm.longN 0)
  rw [hR.out]
  obtain ⟨V, hV⟩ := name_it (nameV R a)
  rw [hV.out]
  go_enter Tryz.func95, Tryz.ntmps95
  go_wp2_with fail
  go_loopw [10, 11] (fun i _ wq => ∃ n : Nat, n ≤ 7 ∧ i = .int .i64 n ∧ Hid (Stm.firstOf t (Stm.longN.drop n) n = R) ∧ Below w.heap.size w wq) (fun i _ _ => 7 - (intOf i).toNat)
  case atStart => exact ⟨0, by omega, rfl, hR, Below.refl _ _⟩
  case round =>
    obtain ⟨n, hn, rfl, hn1, hbr⟩ := hrel
    by_cases hlt : n < 7
    · have hst := Lib.hid (first_step t Stm.longN n hlt)
      have l9 := long_len n
      obtain ⟨x, hx⟩ := name_it (Stm.longN.getD n [])
      rw [hx.out] at hst l9
      have zx : (bs x).size ≤ 9 := by rw [size_bs]; exact l9
      obtain ⟨b, hb⟩ := name_it (x.isPrefixOf t)
      rw [hb.out] at hst
      go_wp2_with fail
      all_goals (try (exfalso; omega))
      refine (rlong_any n _ hlt).mono ?_; rintro e w1 ⟨rfl, hc1⟩
      rw [hx.out]
      go_wp2_with fail
      all_goals (try (exfalso; omega))
      refine (rbegins_b s x a _ ha hs (by omega)).mono ?_; rintro e w2 ⟨rfl, rfl⟩
      rw [ht.out, hb.out]
      have hbw := hbr.trans (hc1.mono hbr.size)
      cases b
      · have hnx : Hid (Stm.firstOf t (Stm.longN.drop (n + 1)) (n + 1) = R) := by rw [← hn1.out, hst.out]; rfl
        go_wp2_with fail
        go_roundw
        case rel => exact ⟨n + 1, by omega, by go_num, hnx, hbw⟩
        case measure => simp [intOf]; omega
      · have hr : Hid (V = .tuple #[.int .i64 n, .int .i64 ((a : Int) + (bs x).size)]) := by rw [← hV.out, ← hn1.out, hst.out, size_bs]; rfl
        go_wp2_with fail
        all_goals (try (exfalso; omega))
        go_ret2
        exact ⟨by rw [hr.out]; rfl, hbw⟩
    · obtain rfl : n = 7 := by omega
      have hr : Hid (V = .tuple #[.int .i64 (-1), .int .i64 a]) := by
        rw [← hV.out, ← hn1.out]; rfl
      go_wp2_with fail
      all_goals (try (exfalso; omega))
      go_ret2
      exact ⟨by rw [hr.out]; rfl, hbr⟩
set_option maxRecDepth 100000 in
theorem rname2 (s : ByteArray) (a : Nat) (w : World) (ha : a ≤ s.size) (hs : s.size ≤ 1099511627) :
    Calls Tryz.prog 95 #[.string s, .int .i64 a, .int .i64 12, .int .u8 109] w fun e w' => e = .returned (nameV (Stm.firstOf ((L s).drop a) (Stm.namesOf 2) 0) a) ∧ Below w.heap.size w w' := by
  obtain ⟨t, ht⟩ := name_it ((L s).drop a)
  rw [ht.out, show Stm.namesOf 2 = Stm.monN from rfl]
  obtain ⟨R, hR⟩ := name_it (Stm.firstOf t Stm.monN 0)
  rw [hR.out]
  obtain ⟨V, hV⟩ := name_it (nameV R a)
  rw [hV.out]
  go_enter Tryz.func95, Tryz.ntmps95
  go_wp2_with fail
  go_loopw [10, 11] (fun i _ wq => ∃ n : Nat, n ≤ 12 ∧ i = .int .i64 n ∧ Hid (Stm.firstOf t (Stm.monN.drop n) n = R) ∧ Below w.heap.size w wq) (fun i _ _ => 12 - (intOf i).toNat)
  case atStart => exact ⟨0, by omega, rfl, hR, Below.refl _ _⟩
  case round =>
    obtain ⟨n, hn, rfl, hn1, hbr⟩ := hrel
    by_cases hlt : n < 12
    · have hst := Lib.hid (first_step t Stm.monN n hlt)
      have l9 := mon_len n
      obtain ⟨x, hx⟩ := name_it (Stm.monN.getD n [])
      rw [hx.out] at hst l9
      have zx : (bs x).size ≤ 9 := by rw [size_bs]; exact l9
      obtain ⟨b, hb⟩ := name_it (x.isPrefixOf t)
      rw [hb.out] at hst
      go_wp2_with fail
      all_goals (try (exfalso; omega))
      refine (rmonth_any n _ hlt).mono ?_; rintro e w1 ⟨rfl, rfl⟩
      rw [hx.out]
      go_wp2_with fail
      all_goals (try (exfalso; omega))
      refine (rbegins_b s x a _ ha hs (by omega)).mono ?_; rintro e w2 ⟨rfl, rfl⟩
      rw [ht.out, hb.out]
      have hbw := hbr
      cases b
      · have hnx : Hid (Stm.firstOf t (Stm.monN.drop (n + 1)) (n + 1) = R) := by rw [← hn1.out, hst.out]; rfl
        go_wp2_with fail
        go_roundw
        case rel => exact ⟨n + 1, by omega, by go_num, hnx, hbw⟩
        case measure => simp [intOf]; omega
      · have hr : Hid (V = .tuple #[.int .i64 n, .int .i64 ((a : Int) + (bs x).size)]) := by rw [← hV.out, ← hn1.out, hst.out, size_bs]; rfl
        go_wp2_with fail
        all_goals (try (exfalso; omega))
        go_ret2
        exact ⟨by rw [hr.out]; rfl, hbw⟩
    · obtain rfl : n = 12 := by omega
      have hr : Hid (V = .tuple #[.int .i64 (-1), .int .i64 a]) := by
        rw [← hV.out, ← hn1.out]; rfl
      go_wp2_with fail
      all_goals (try (exfalso; omega))
      go_ret2
      exact ⟨by rw [hr.out]; rfl, hbr⟩

/-- the number that digits say, the place behind them; -1 and the place at which there is none -/
def numV (r : Nat × Int × Bool) : Value := if r.2.2 then .tuple #[.int .i64 r.2.1, .int .i64 r.1] else .tuple #[.int .i64 (-1), .int .i64 r.1]
theorem digs_some {s : List UInt8} {w : Nat} {b : Bool} {a : Nat} {v : Int} {c : UInt8} (h : s[a]? = some c) : Stm.digs s (w + 1) b a v = if b && c == 32 then Stm.digs s w false (a + 1) (10 * v) else if Stm.isDig c then Stm.digs s w false (a + 1) (10 * v + ((c.toNat : Int) - 48)) else (a, v, false) := by
  rw [Stm.digs, h]
theorem digs_none {s : List UInt8} {w : Nat} {b : Bool} {a : Nat} {v : Int} (h : s[a]? = none) : Stm.digs s (w + 1) b a v = (a, v, false) := by
  rw [Stm.digs, h]
theorem L_get? {s : ByteArray} {a : Nat} (h : a < s.size) : (L s)[a]? = some s[a] := by
  rw [List.getElem?_eq_getElem (by rw [L_length]; exact h)]; rfl
theorem L_get?_none {s : ByteArray} {a : Nat} (h : s.size ≤ a) : (L s)[a]? = none := List.getElem?_eq_none (by rw [L_length]; exact h)
set_option maxRecDepth 100000 in
theorem rnumber_any (s : ByteArray) (a W : Nat) (bl : Bool) (w : World) (ha : a ≤ s.size) (hs : s.size ≤ 1099511627) (hW : W ≤ 4) :
    Calls Tryz.prog 96 #[.string s, .int .i64 a, .int .i64 W, .bool bl] w fun e w' => e = .returned (numV (Stm.digs (L s) W bl a 0)) ∧ w = w' := by
  obtain ⟨R, hR⟩ := name_it (Stm.digs (L s) W bl a 0)
  rw [hR.out]
  obtain ⟨V, hV⟩ := name_it (numV R)
  rw [hV.out]
  go_enter Tryz.func96, Tryz.ntmps96
  go_wp2_with fail
  go_loop [10, 11] (fun n i => ∃ (k : Nat) (m : Int) (b : Bool), k ≤ W ∧ i = .int .i64 k ∧ n = .int .i64 m ∧ 0 ≤ m ∧ m < 10 ^ k ∧ a + k ≤ s.size ∧ Hid (Stm.digs (L s) (W - k) b (a + k) m = R) ∧ Hid (b = (bl && k == 0))) (fun _ i => W - (intOf i).toNat)
  case atStart => exact ⟨0, 0, bl, Nat.zero_le _, rfl, rfl, by omega, by simp, ha, hR, by simp [Hid]⟩
  case round =>
    obtain ⟨k, m, b, hk, rfl, rfl, m0, m1, hak, hd, hb⟩ := hrel
    have hp4 : (10 : Int) ^ k ≤ 10000 := by
      have : (10 : Nat) ^ k ≤ 10 ^ 4 := Nat.pow_le_pow_right (by omega) (by omega)
      exact_mod_cast this
    have m2 : m ≤ 9999 := by omega
    have HM := Lib.hid m1
    clear hp4 m1
    have hps : (10 : Int) ^ (k + 1) = 10 ^ k * 10 := Int.pow_succ _ _
    have HP := Lib.hid hps
    clear hps
    by_cases hlt : k < W
    · by_cases hin : a + k < s.size
      · have hg := L_get? hin
        have hi : (a : Int) + k < s.size := by omega
        have hst := digs_some (w := W - (k + 1)) (b := b) (v := m) hg
        rw [show W - (k + 1) + 1 = W - k by omega] at hst
        have HS := Lib.hid hst
        clear hst hg
        obtain ⟨c, hc⟩ := name_it (s[a + k])
        rw [hc.out] at HS
        have hc' : s[a + k] = c := hc.out
        have hcm : (c.toNat : Int) < 256 := by have := UInt8.toNat_lt c; omega
        by_cases hk0 : bl = true ∧ k = 0 ∧ c = 32
        · have hb2 : (b && c == 32) = true := by rw [hb.out, hk0.1, hk0.2.1, hk0.2.2]; rfl
          have hm0 : m = 0 := by have := HM.out; rw [hk0.2.1] at this; simp at this; omega
          have hN : Hid (Stm.digs (L s) (W - (k + 1)) false (a + (k + 1)) m = R) := by
            rw [← hd.out, HS.out, if_pos hb2, show 10 * m = m by omega]; rfl
          have hm2 : Hid (m < 10 ^ (k + 1)) := by have := HM.out; rw [HP.out]; unfold Hid; omega
          have hkb : ((k : Int) == 0) = true := by simp; exact hk0.2.1
          have hcb : ((c.toNat : Int) == 32) = true := by rw [hk0.2.2]; rfl
          obtain rfl := hk0.1
          clear HS HM HP hd hc hb hb2 hm0 hk0
          go_wp2_with fail
          all_goals (try (exfalso; omega))
          go_round
          case rel => exact ⟨k + 1, m, false, by omega, by go_num, rfl, by omega, hm2.out, by omega, hN, by simp [Hid]⟩
          case measure => simp [intOf]; omega
        · have hb2 : (b && c == 32) = false := by
            rw [Bool.eq_false_iff]; intro h; rw [hb.out] at h; simp at h; exact hk0 ⟨h.1.1, h.1.2, h.2⟩
          rw [hb2, if_neg (by simp)] at HS
          have hcase : bl = false ∨ (bl = true ∧ ((k : Int) == 0) = false) ∨ (bl = true ∧ ((k : Int) == 0) = true ∧ ((c.toNat : Int) == 32) = false) := by
            cases bl
            · exact Or.inl rfl
            · by_cases hk1 : k = 0
              · refine Or.inr (Or.inr ⟨rfl, by simp [hk1], byte_ne (fun h => hk0 ⟨rfl, hk1, h⟩)⟩)
              · exact Or.inr (Or.inl ⟨rfl, by simp; omega⟩)
          clear hb2 hk0 hb hc
          rcases hcase with rfl | ⟨rfl, hkb⟩ | ⟨rfl, hkb, hcb⟩
          · by_cases hdg : 48 ≤ c.toNat ∧ c.toNat ≤ 57
            · have hN : Hid (Stm.digs (L s) (W - (k + 1)) false (a + (k + 1)) (10 * m + ((c.toNat : Int) - 48)) = R) := by
                rw [← hd.out, HS.out, if_pos (show Stm.isDig c = true by unfold Stm.isDig; exact decide_eq_true hdg)]; rfl
              have hm2 : Hid (10 * m + ((c.toNat : Int) - 48) < 10 ^ (k + 1)) := by have := HM.out; rw [HP.out]; unfold Hid; omega
              clear HS HM HP hd
              go_wp2_with fail
              all_goals (try (exfalso; omega))
              go_round
              case rel => exact ⟨k + 1, _, false, by omega, by go_num, rfl, by omega, hm2.out, by omega, hN, by simp [Hid]⟩
              case measure => simp [intOf]; omega
            · have hr : Hid (V = .tuple #[.int .i64 (-1), .int .i64 ((a : Int) + k)]) := by
                rw [← hV.out, ← hd.out, HS.out, if_neg (show ¬ Stm.isDig c = true by unfold Stm.isDig; rw [decide_eq_true_eq]; exact hdg)]; rfl
              clear HS HM HP hd
              go_wp2_with fail
              all_goals (try (exfalso; omega))
              all_goals go_ret2
              all_goals exact ⟨by rw [hr.out]; rfl, rfl⟩
          · by_cases hdg : 48 ≤ c.toNat ∧ c.toNat ≤ 57
            · have hN : Hid (Stm.digs (L s) (W - (k + 1)) false (a + (k + 1)) (10 * m + ((c.toNat : Int) - 48)) = R) := by
                rw [← hd.out, HS.out, if_pos (show Stm.isDig c = true by unfold Stm.isDig; exact decide_eq_true hdg)]; rfl
              have hm2 : Hid (10 * m + ((c.toNat : Int) - 48) < 10 ^ (k + 1)) := by have := HM.out; rw [HP.out]; unfold Hid; omega
              clear HS HM HP hd
              go_wp2_with fail
              all_goals (try (exfalso; omega))
              go_round
              case rel => exact ⟨k + 1, _, false, by omega, by go_num, rfl, by omega, hm2.out, by omega, hN, by simp [Hid]⟩
              case measure => simp [intOf]; omega
            · have hr : Hid (V = .tuple #[.int .i64 (-1), .int .i64 ((a : Int) + k)]) := by
                rw [← hV.out, ← hd.out, HS.out, if_neg (show ¬ Stm.isDig c = true by unfold Stm.isDig; rw [decide_eq_true_eq]; exact hdg)]; rfl
              clear HS HM HP hd
              go_wp2_with fail
              all_goals (try (exfalso; omega))
              all_goals go_ret2
              all_goals exact ⟨by rw [hr.out]; rfl, rfl⟩
          · by_cases hdg : 48 ≤ c.toNat ∧ c.toNat ≤ 57
            · have hN : Hid (Stm.digs (L s) (W - (k + 1)) false (a + (k + 1)) (10 * m + ((c.toNat : Int) - 48)) = R) := by
                rw [← hd.out, HS.out, if_pos (show Stm.isDig c = true by unfold Stm.isDig; exact decide_eq_true hdg)]; rfl
              have hm2 : Hid (10 * m + ((c.toNat : Int) - 48) < 10 ^ (k + 1)) := by have := HM.out; rw [HP.out]; unfold Hid; omega
              clear HS HM HP hd
              go_wp2_with fail
              all_goals (try (exfalso; omega))
              go_round
              case rel => exact ⟨k + 1, _, false, by omega, by go_num, rfl, by omega, hm2.out, by omega, hN, by simp [Hid]⟩
              case measure => simp [intOf]; omega
            · have hr : Hid (V = .tuple #[.int .i64 (-1), .int .i64 ((a : Int) + k)]) := by
                rw [← hV.out, ← hd.out, HS.out, if_neg (show ¬ Stm.isDig c = true by unfold Stm.isDig; rw [decide_eq_true_eq]; exact hdg)]; rfl
              clear HS HM HP hd
              go_wp2_with fail
              all_goals (try (exfalso; omega))
              all_goals go_ret2
              all_goals exact ⟨by rw [hr.out]; rfl, rfl⟩
      · have hin' : s.size ≤ a + k := by omega
        have hi : (s.size : Int) ≤ (a : Int) + k := by omega
        have hr : Hid (V = .tuple #[.int .i64 (-1), .int .i64 (s.size : Int)]) := by
          have hst := digs_none (w := W - (k + 1)) (b := b) (v := m) (L_get?_none hin')
          rw [show W - (k + 1) + 1 = W - k by omega] at hst
          rw [← hV.out, ← hd.out, hst, show a + k = s.size by omega]; rfl
        clear HM HP hd
        go_wp2_with fail
        all_goals (try (exfalso; omega))
        go_ret2
        exact ⟨by rw [hr.out]; rfl, rfl⟩
    · obtain rfl : k = W := by omega
      have hr : Hid (V = .tuple #[.int .i64 m, .int .i64 ((a : Int) + k)]) := by
        rw [← hV.out, ← hd.out, Nat.sub_self]; rfl
      go_wp2_with fail
      all_goals (try (exfalso; omega))
      go_ret2
      exact ⟨by rw [hr.out]; rfl, rfl⟩
end Go.Proofs.YtjalfddedikibaaGreatDoor
