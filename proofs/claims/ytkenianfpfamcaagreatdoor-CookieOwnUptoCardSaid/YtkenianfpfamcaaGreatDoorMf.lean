/- Contracts of the document's name and number. Contract of the document's read: what a text says in a form. Contract of the document's near: the year around now's. -/
import Derived.Test.YtkenianfpfamcaaGreatDoorMe
import Derived.Test.YtkenianfpfamcaaGreatDoorMc
namespace Go.Proofs.YtkenianfpfamcaaGreatDoor
open Go Go.RowKit
set_option maxHeartbeats 2000000

def kindB (k : Nat) : Int := if k = 0 then 119 else if k = 1 then 108 else 109
def cntN (k : Nat) : Nat := if k = 2 then 12 else 7
def nameV (r : Option (Nat × List UInt8)) (a : Nat) : Value :=
  match r with
  | none => .tuple #[.int .i64 (-1), .int .i64 a]
  | some (i, w) => .tuple #[.int .i64 i, .int .i64 ((a : Int) + w.length)]
theorem names_len (k : Nat) (hk : k < 3) : (Stm.namesOf k).length = cntN k := by
  have : k = 0 ∨ k = 1 ∨ k = 2 := by omega
  rcases this with rfl | rfl | rfl <;> rfl
theorem names_len9 (k : Nat) (hk : k < 3) (n : Nat) : ((Stm.namesOf k).getD n []).length ≤ 9 := by
  have : k = 0 ∨ k = 1 ∨ k = 2 := by omega
  rcases this with rfl | rfl | rfl
  · exact short_len n
  · exact long_len n
  · exact mon_len n
theorem first_step (t : List UInt8) (l : List (List UInt8)) (i : Nat) (h : i < l.length) : Stm.firstOf t (l.drop i) i = if (l.getD i []).isPrefixOf t then some (i, l.getD i []) else Stm.firstOf t (l.drop (i + 1)) (i + 1) := by
  rw [List.drop_eq_getElem_cons h]
  have : l.getD i [] = l[i] := by rw [List.getD_eq_getElem?_getD, List.getElem?_eq_getElem h]; rfl
  rw [this]
  rfl

set_option maxRecDepth 100000 in
theorem rname0 (s : ByteArray) (a : Nat) (w : World) (ha : a ≤ s.size) (hs : s.size ≤ 1099511627) :
    Calls Tryz.prog 199 #[.string s, .int .i64 a, .int .i64 7, .int .u8 119] w fun e w' => e = .returned (nameV (Stm.firstOf ((L s).drop a) (Stm.namesOf 0) 0) a) ∧ Below w.heap.size w w' := by
  obtain ⟨t, ht⟩ := name_it ((L s).drop a)
  rw [ht.out, show Stm.namesOf 0 = Stm.shortN from rfl]
  obtain ⟨R, hR⟩ := name_it (Stm.firstOf t Stm.shortN 0)
  rw [hR.out]
  obtain ⟨V, hV⟩ := name_it (nameV R a)
  rw [hV.out]
  go_enter Tryz.func199, Tryz.ntmps199
  go_wp2_with fail
  go_loopw [10, 11] (fun i _ wq => ∃ n : Nat, n ≤ 7 ∧ i = .int .i64 n ∧ Hid (Stm.firstOf t (Stm.shortN.drop n) n = R) ∧ Below w.heap.size w wq) (fun i _ _ => 7 - (intOf i).toNat)
  case atStart => exact ⟨0, by omega, rfl, hR, Below.refl _ _⟩
  case round =>
    obtain ⟨n, hn, rfl, hn1, hbr⟩ := hrel
    by_cases hlt : n < 7
    · have hst := Lib.hid (first_step t Stm.shortN n hlt)
      have l9 := short_len n
      obtain ⟨x, hx⟩ := name_it (Stm.shortN.getD n [])
      rw [hx.out] at hst l9
      have zx : (bs x).size ≤ 9 := by rw [size_bs]; exact l9
      obtain ⟨b, hb⟩ := name_it (x.isPrefixOf t)
      rw [hb.out] at hst
      go_wp2_with fail
      all_goals (try (exfalso; omega))
      refine (rshort_any n _ hlt).mono ?_; rintro e w1 ⟨rfl, hc1⟩
      rw [hx.out]
      go_wp2_with fail
      all_goals (try (exfalso; omega))
      refine (rbegins_b s x a _ ha hs (by omega)).mono ?_; rintro e w2 ⟨rfl, rfl⟩
      rw [ht.out, hb.out]
      have hbw := hbr.trans (hc1.mono hbr.size)
      cases b
      · have hnx : Hid (Stm.firstOf t (Stm.shortN.drop (n + 1)) (n + 1) = R) := by rw [← hn1.out, hst.out]; rfl
        go_wp2_with fail
        go_roundw
        case rel => exact ⟨n + 1, by omega, by go_num, hnx, hbw⟩
        case measure => simp [intOf]; omega
      · have hr : Hid (V = .tuple #[.int .i64 n, .int .i64 ((a : Int) + (bs x).size)]) := by rw [← hV.out, ← hn1.out, hst.out, size_bs]; rfl
        go_wp2_with fail
        all_goals (try (exfalso; omega))
        go_ret2
        exact ⟨by rw [hr.out]; rfl, hbw⟩
    · obtain rfl : n = 7 := by omega
      have hr : Hid (V = .tuple #[.int .i64 (-1), .int .i64 a]) := by
        rw [← hV.out, ← hn1.out]; rfl
      go_wp2_with fail
      all_goals (try (exfalso; omega))
      go_ret2
      exact ⟨by rw [hr.out]; rfl, hbr⟩
set_option maxRecDepth 100000 in
theorem rname1 (s : ByteArray) (a : Nat) (w : World) (ha : a ≤ s.size) (hs : s.size ≤ 1099511627) :
    Calls Tryz.prog 199 #[.string s, .int .i64 a, .int .i64 7, .int .u8 108] w fun e w' => e = .returned (nameV (Stm.firstOf ((L s).drop a) (Stm.namesOf 1) 0) a) ∧ Below w.heap.size w w' := by
  obtain ⟨t, ht⟩ := name_it ((L s).drop a)
  rw [ht.out, show Stm.namesOf 1 = Stm.longN from rfl]
  obtain ⟨R, hR⟩ := name_it (Stm.firstOf t Stm.longN 0)
  rw [hR.out]
  obtain ⟨V, hV⟩ := name_it (nameV R a)
  rw [hV.out]
  go_enter Tryz.func199, Tryz.ntmps199
  go_wp2_with fail
  go_loopw [10, 11] (fun i _ wq => ∃ n : Nat, n ≤ 7 ∧ i = .int .i64 n ∧ Hid (Stm.firstOf t (Stm.longN.drop n) n = R) ∧ Below w.heap.size w wq) (fun i _ _ => 7 - (intOf i).toNat)
  case atStart => exact ⟨0, by omega, rfl, hR, Below.refl _ _⟩
  case round =>
    obtain ⟨n, hn, rfl, hn1, hbr⟩ := hrel
    by_cases hlt : n < 7
    · have hst := Lib.hid (first_step t Stm.longN n hlt)
      have l9 := long_len n
      obtain ⟨x, hx⟩ := name_it (Stm.longN.getD n [])
      rw [hx.out] at hst l9
      have zx : (bs x).size ≤ 9 := by rw [size_bs]; exact l9
      obtain ⟨b, hb⟩ := name_it (x.isPrefixOf t)
      rw [hb.out] at hst
      go_wp2_with fail
      all_goals (try (exfalso; omega))
      refine (rlong_any n _ hlt).mono ?_; rintro e w1 ⟨rfl, hc1⟩
      rw [hx.out]
      go_wp2_with fail
      all_goals (try (exfalso; omega))
      refine (rbegins_b s x a _ ha hs (by omega)).mono ?_; rintro e w2 ⟨rfl, rfl⟩
      rw [ht.out, hb.out]
      have hbw := hbr.trans (hc1.mono hbr.size)
      cases b
      · have hnx : Hid (Stm.firstOf t (Stm.longN.drop (n + 1)) (n + 1) = R) := by rw [← hn1.out, hst.out]; rfl
        go_wp2_with fail
        go_roundw
        case rel => exact ⟨n + 1, by omega, by go_num, hnx, hbw⟩
        case measure => simp [intOf]; omega
      · have hr : Hid (V = .tuple #[.int .i64 n, .int .i64 ((a : Int) + (bs x).size)]) := by rw [← hV.out, ← hn1.out, hst.out, size_bs]; rfl
        go_wp2_with fail
        all_goals (try (exfalso; omega))
        go_ret2
        exact ⟨by rw [hr.out]; rfl, hbw⟩
    · obtain rfl : n = 7 := by omega
      have hr : Hid (V = .tuple #[.int .i64 (-1), .int .i64 a]) := by
        rw [← hV.out, ← hn1.out]; rfl
      go_wp2_with fail
      all_goals (try (exfalso; omega))
      go_ret2
      exact ⟨by rw [hr.out]; rfl, hbr⟩
set_option maxRecDepth 100000 in
theorem rname2 (s : ByteArray) (a : Nat) (w : World) (ha : a ≤ s.size) (hs : s.size ≤ 1099511627) :
    Calls Tryz.prog 199 #[.string s, .int .i64 a, .int .i64 12, .int .u8 109] w fun e w' => e = .returned (nameV (Stm.firstOf ((L s).drop a) (Stm.namesOf 2) 0) a) ∧ Below w.heap.size w w' := by
  obtain ⟨t, ht⟩ := name_it ((L s).drop a)
  rw [ht.out, show Stm.namesOf 2 = Stm.monN from rfl]
  obtain ⟨R, hR⟩ := name_it (Stm.firstOf t Stm.monN 0)
  rw [hR.out]
  obtain ⟨V, hV⟩ := name_it (nameV R a)
  rw [hV.out]
  go_enter Tryz.func199, Tryz.ntmps199
  go_wp2_with fail
  go_loopw [10, 11] (fun i _ wq => ∃ n : Nat, n ≤ 12 ∧ i = .int .i64 n ∧ Hid (Stm.firstOf t (Stm.monN.drop n) n = R) ∧ Below w.heap.size w wq) (fun i _ _ => 12 - (intOf i).toNat)
  case atStart => exact ⟨0, by omega, rfl, hR, Below.refl _ _⟩
  case round =>
    obtain ⟨n, hn, rfl, hn1, hbr⟩ := hrel
    by_cases hlt : n < 12
    · have hst := Lib.hid (first_step t Stm.monN n hlt)
      have l9 := mon_len n
      obtain ⟨x, hx⟩ := name_it (Stm.monN.getD n [])
      rw [hx.out] at hst l9
      have zx : (bs x).size ≤ 9 := by rw [size_bs]; exact l9
      obtain ⟨b, hb⟩ := name_it (x.isPrefixOf t)
      rw [hb.out] at hst
      go_wp2_with fail
      all_goals (try (exfalso; omega))
      refine (rmonth_any n _ hlt).mono ?_; rintro e w1 ⟨rfl, rfl⟩
      rw [hx.out]
      go_wp2_with fail
      all_goals (try (exfalso; omega))
      refine (rbegins_b s x a _ ha hs (by omega)).mono ?_; rintro e w2 ⟨rfl, rfl⟩
      rw [ht.out, hb.out]
      have hbw := hbr
      cases b
      · have hnx : Hid (Stm.firstOf t (Stm.monN.drop (n + 1)) (n + 1) = R) := by rw [← hn1.out, hst.out]; rfl
        go_wp2_with fail
        go_roundw
        case rel => exact ⟨n + 1, by omega, by go_num, hnx, hbw⟩
        case measure => simp [intOf]; omega
      · have hr : Hid (V = .tuple #[.int .i64 n, .int .i64 ((a : Int) + (bs x).size)]) := by rw [← hV.out, ← hn1.out, hst.out, size_bs]; rfl
        go_wp2_with fail
        all_goals (try (exfalso; omega))
        go_ret2
        exact ⟨by rw [hr.out]; rfl, hbw⟩
    · obtain rfl : n = 12 := by omega
      have hr : Hid (V = .tuple #[.int .i64 (-1), .int .i64 a]) := by
        rw [← hV.out, ← hn1.out]; rfl
      go_wp2_with fail
      all_goals (try (exfalso; omega))
      go_ret2
      exact ⟨by rw [hr.out]; rfl, hbr⟩

/-- the number that digits say, the place behind them; -1 and the place at which there is none -/
def numV (r : Nat × Int × Bool) : Value := if r.2.2 then .tuple #[.int .i64 r.2.1, .int .i64 r.1] else .tuple #[.int .i64 (-1), .int .i64 r.1]
theorem digs_some {s : List UInt8} {w : Nat} {b : Bool} {a : Nat} {v : Int} {c : UInt8} (h : s[a]? = some c) : Stm.digs s (w + 1) b a v = if b && c == 32 then Stm.digs s w false (a + 1) (10 * v) else if Stm.isDig c then Stm.digs s w false (a + 1) (10 * v + ((c.toNat : Int) - 48)) else (a, v, false) := by
  rw [Stm.digs, h]
theorem digs_none {s : List UInt8} {w : Nat} {b : Bool} {a : Nat} {v : Int} (h : s[a]? = none) : Stm.digs s (w + 1) b a v = (a, v, false) := by
  rw [Stm.digs, h]
theorem L_get? {s : ByteArray} {a : Nat} (h : a < s.size) : (L s)[a]? = some s[a] := by
  rw [List.getElem?_eq_getElem (by rw [L_length]; exact h)]; rfl
theorem L_get?_none {s : ByteArray} {a : Nat} (h : s.size ≤ a) : (L s)[a]? = none := List.getElem?_eq_none (by rw [L_length]; exact h)
set_option maxRecDepth 100000 in
theorem rnumber_any (s : ByteArray) (a W : Nat) (bl : Bool) (w : World) (ha : a ≤ s.size) (hs : s.size ≤ 1099511627) (hW : W ≤ 4) :
    Calls Tryz.prog 200 #[.string s, .int .i64 a, .int .i64 W, .bool bl] w fun e w' => e = .returned (numV (Stm.digs (L s) W bl a 0)) ∧ w = w' := by
  obtain ⟨R, hR⟩ := name_it (Stm.digs (L s) W bl a 0)
  rw [hR.out]
  obtain ⟨V, hV⟩ := name_it (numV R)
  rw [hV.out]
  go_enter Tryz.func200, Tryz.ntmps200
  go_wp2_with fail
  go_loop [10, 11] (fun n i => ∃ (k : Nat) (m : Int) (b : Bool), k ≤ W ∧ i = .int .i64 k ∧ n = .int .i64 m ∧ 0 ≤ m ∧ m < 10 ^ k ∧ a + k ≤ s.size ∧ Hid (Stm.digs (L s) (W - k) b (a + k) m = R) ∧ Hid (b = (bl && k == 0))) (fun _ i => W - (intOf i).toNat)
  case atStart => exact ⟨0, 0, bl, Nat.zero_le _, rfl, rfl, by omega, by simp, ha, hR, by simp [Hid]⟩
  case round =>
    obtain ⟨k, m, b, hk, rfl, rfl, m0, m1, hak, hd, hb⟩ := hrel
    have hp4 : (10 : Int) ^ k ≤ 10000 := by
      have : (10 : Nat) ^ k ≤ 10 ^ 4 := Nat.pow_le_pow_right (by omega) (by omega)
      exact_mod_cast this
    have m2 : m ≤ 9999 := by omega
    have HM := Lib.hid m1
    clear hp4 m1
    have hps : (10 : Int) ^ (k + 1) = 10 ^ k * 10 := Int.pow_succ _ _
    have HP := Lib.hid hps
    clear hps
    by_cases hlt : k < W
    · by_cases hin : a + k < s.size
      · have hg := L_get? hin
        have hi : (a : Int) + k < s.size := by omega
        have hst := digs_some (w := W - (k + 1)) (b := b) (v := m) hg
        rw [show W - (k + 1) + 1 = W - k by omega] at hst
        have HS := Lib.hid hst
        clear hst hg
        obtain ⟨c, hc⟩ := name_it (s[a + k])
        rw [hc.out] at HS
        have hc' : s[a + k] = c := hc.out
        have hcm : (c.toNat : Int) < 256 := by have := UInt8.toNat_lt c; omega
        by_cases hk0 : bl = true ∧ k = 0 ∧ c = 32
        · have hb2 : (b && c == 32) = true := by rw [hb.out, hk0.1, hk0.2.1, hk0.2.2]; rfl
          have hm0 : m = 0 := by have := HM.out; rw [hk0.2.1] at this; simp at this; omega
          have hN : Hid (Stm.digs (L s) (W - (k + 1)) false (a + (k + 1)) m = R) := by
            rw [← hd.out, HS.out, if_pos hb2, show 10 * m = m by omega]; rfl
          have hm2 : Hid (m < 10 ^ (k + 1)) := by have := HM.out; rw [HP.out]; unfold Hid; omega
          have hkb : ((k : Int) == 0) = true := by simp; exact hk0.2.1
          have hcb : ((c.toNat : Int) == 32) = true := by rw [hk0.2.2]; rfl
          obtain rfl := hk0.1
          clear HS HM HP hd hc hb hb2 hm0 hk0
          go_wp2_with fail
          all_goals (try (exfalso; omega))
          go_round
          case rel => exact ⟨k + 1, m, false, by omega, by go_num, rfl, by omega, hm2.out, by omega, hN, by simp [Hid]⟩
          case measure => simp [intOf]; omega
        · have hb2 : (b && c == 32) = false := by
            rw [Bool.eq_false_iff]; intro h; rw [hb.out] at h; simp at h; exact hk0 ⟨h.1.1, h.1.2, h.2⟩
          rw [hb2, if_neg (by simp)] at HS
          have hcase : bl = false ∨ (bl = true ∧ ((k : Int) == 0) = false) ∨ (bl = true ∧ ((k : Int) == 0) = true ∧ ((c.toNat : Int) == 32) = false) := by
            cases bl
            · exact Or.inl rfl
            · by_cases hk1 : k = 0
              · refine Or.inr (Or.inr ⟨rfl, by simp [hk1], byte_ne (fun h => hk0 ⟨rfl, hk1, h⟩)⟩)
              · exact Or.inr (Or.inl ⟨rfl, by simp; omega⟩)
          clear hb2 hk0 hb hc
          rcases hcase with rfl | ⟨rfl, hkb⟩ | ⟨rfl, hkb, hcb⟩
          · by_cases hdg : 48 ≤ c.toNat ∧ c.toNat ≤ 57
            · have hN : Hid (Stm.digs (L s) (W - (k + 1)) false (a + (k + 1)) (10 * m + ((c.toNat : Int) - 48)) = R) := by
                rw [← hd.out, HS.out, if_pos (show Stm.isDig c = true by unfold Stm.isDig; exact decide_eq_true hdg)]; rfl
              have hm2 : Hid (10 * m + ((c.toNat : Int) - 48) < 10 ^ (k + 1)) := by have := HM.out; rw [HP.out]; unfold Hid; omega
              clear HS HM HP hd
              go_wp2_with fail
              all_goals (try (exfalso; omega))
              go_round
              case rel => exact ⟨k + 1, _, false, by omega, by go_num, rfl, by omega, hm2.out, by omega, hN, by simp [Hid]⟩
              case measure => simp [intOf]; omega
            · have hr : Hid (V = .tuple #[.int .i64 (-1), .int .i64 ((a : Int) + k)]) := by
                rw [← hV.out, ← hd.out, HS.out, if_neg (show ¬ Stm.isDig c = true by unfold Stm.isDig; rw [decide_eq_true_eq]; exact hdg)]; rfl
              clear HS HM HP hd
              go_wp2_with fail
              all_goals (try (exfalso; omega))
              all_goals go_ret2
              all_goals exact ⟨by rw [hr.out]; rfl, rfl⟩
          · by_cases hdg : 48 ≤ c.toNat ∧ c.toNat ≤ 57
            · have hN : Hid (Stm.digs (L s) (W - (k + 1)) false (a + (k + 1)) (10 * m + ((c.toNat : Int) - 48)) = R) := by
                rw [← hd.out, HS.out, if_pos (show Stm.isDig c = true by unfold Stm.isDig; exact decide_eq_true hdg)]; rfl
              have hm2 : Hid (10 * m + ((c.toNat : Int) - 48) < 10 ^ (k + 1)) := by have := HM.out; rw [HP.out]; unfold Hid; omega
              clear HS HM HP hd
              go_wp2_with fail
              all_goals (try (exfalso; omega))
              go_round
              case rel => exact ⟨k + 1, _, false, by omega, by go_num, rfl, by omega, hm2.out, by omega, hN, by simp [Hid]⟩
              case measure => simp [intOf]; omega
            · have hr : Hid (V = .tuple #[.int .i64 (-1), .int .i64 ((a : Int) + k)]) := by
                rw [← hV.out, ← hd.out, HS.out, if_neg (show ¬ Stm.isDig c = true by unfold Stm.isDig; rw [decide_eq_true_eq]; exact hdg)]; rfl
              clear HS HM HP hd
              go_wp2_with fail
              all_goals (try (exfalso; omega))
              all_goals go_ret2
              all_goals exact ⟨by rw [hr.out]; rfl, rfl⟩
          · by_cases hdg : 48 ≤ c.toNat ∧ c.toNat ≤ 57
            · have hN : Hid (Stm.digs (L s) (W - (k + 1)) false (a + (k + 1)) (10 * m + ((c.toNat : Int) - 48)) = R) := by
                rw [← hd.out, HS.out, if_pos (show Stm.isDig c = true by unfold Stm.isDig; exact decide_eq_true hdg)]; rfl
              have hm2 : Hid (10 * m + ((c.toNat : Int) - 48) < 10 ^ (k + 1)) := by have := HM.out; rw [HP.out]; unfold Hid; omega
              clear HS HM HP hd
              go_wp2_with fail
              all_goals (try (exfalso; omega))
              go_round
              case rel => exact ⟨k + 1, _, false, by omega, by go_num, rfl, by omega, hm2.out, by omega, hN, by simp [Hid]⟩
              case measure => simp [intOf]; omega
            · have hr : Hid (V = .tuple #[.int .i64 (-1), .int .i64 ((a : Int) + k)]) := by
                rw [← hV.out, ← hd.out, HS.out, if_neg (show ¬ Stm.isDig c = true by unfold Stm.isDig; rw [decide_eq_true_eq]; exact hdg)]; rfl
              clear HS HM HP hd
              go_wp2_with fail
              all_goals (try (exfalso; omega))
              all_goals go_ret2
              all_goals exact ⟨by rw [hr.out]; rfl, rfl⟩
      · have hin' : s.size ≤ a + k := by omega
        have hi : (s.size : Int) ≤ (a : Int) + k := by omega
        have hr : Hid (V = .tuple #[.int .i64 (-1), .int .i64 (s.size : Int)]) := by
          have hst := digs_none (w := W - (k + 1)) (b := b) (v := m) (L_get?_none hin')
          rw [show W - (k + 1) + 1 = W - k by omega] at hst
          rw [← hV.out, ← hd.out, hst, show a + k = s.size by omega]; rfl
        clear HM HP hd
        go_wp2_with fail
        all_goals (try (exfalso; omega))
        go_ret2
        exact ⟨by rw [hr.out]; rfl, rfl⟩
    · obtain rfl : k = W := by omega
      have hr : Hid (V = .tuple #[.int .i64 m, .int .i64 ((a : Int) + k)]) := by
        rw [← hV.out, ← hd.out, Nat.sub_self]; rfl
      go_wp2_with fail
      all_goals (try (exfalso; omega))
      go_ret2
      exact ⟨by rw [hr.out]; rfl, rfl⟩
end Go.Proofs.YtkenianfpfamcaaGreatDoor
namespace Go.Proofs.YtkenianfpfamcaaGreatDoor
open Go Go.RowKit
set_option maxHeartbeats 4000000

def toPc (c : UInt8) : Stm.Pc :=
  if c = 119 then .name 0 else if c = 108 then .name 1 else if c = 109 then .name 2 else if c = 100 then .dig 2 false 0 else if c = 101 then .dig 2 true 0
  else if c = 121 then .dig 4 false 1 else if c = 99 then .dig 2 false 1 else if c = 104 then .dig 2 false 2 else if c = 105 then .dig 2 false 3 else if c = 115 then .dig 2 false 4 else .lit c
theorem pat_pcs (form : Nat) (h : form < 3) : (patL form).map toPc = Stm.pcs form := by
  have : form = 0 ∨ form = 1 ∨ form = 2 := by omega
  rcases this with rfl | rfl | rfl <;> decide
def foundCells (st : Stm.St) : List Value :=
  [.int .i64 st.wd, .int .i64 st.mo, .int .i64 st.dy, .int .i64 st.yr, .int .i64 st.hh, .int .i64 st.mi, .int .i64 st.ss, .int .i64 st.dyAt, .int .i64 st.yrAt, .int .i64 st.hhAt, .int .i64 st.miAt, .int .i64 st.ssAt]
def readV (r : Stm.St × Bool) (len : Nat) : Value :=
  if r.2 then .tuple #[.agg (foundCells r.1).toArray, .bool (((r.1.at_ : Int)) == (len : Int)), .int .i64 r.1.at_] else .tuple #[.agg (foundCells Stm.st0).toArray, .bool false, .int .i64 r.1.at_]

theorem digs_le (s : List UInt8) : ∀ (w : Nat) (b : Bool) (a : Nat) (v : Int), a ≤ s.length → 0 ≤ v → (Stm.digs s w b a v).1 ≤ s.length ∧ 0 ≤ (Stm.digs s w b a v).2.1
  | 0, b, a, v, h, hv => ⟨h, hv⟩
  | w + 1, b, a, v, h, hv => by
    cases hc : s[a]? with
    | none => rw [digs_none hc]; exact ⟨h, hv⟩
    | some c =>
      have hlt := (List.getElem?_eq_some_iff.1 hc).1
      rw [digs_some hc]
      split
      · exact digs_le s w false (a + 1) _ hlt (by omega)
      · split
        · rename_i hd
          have : 48 ≤ c.toNat := by unfold Stm.isDig at hd; exact (of_decide_eq_true hd).1
          exact digs_le s w false (a + 1) _ hlt (by omega)
        · exact ⟨h, hv⟩
theorem first_le (s : List UInt8) (a k n : Nat) (x : List UInt8) (h : Stm.firstOf (s.drop a) (Stm.namesOf k) 0 = some (n, x)) (ha : a ≤ s.length) : a + x.length ≤ s.length := by
  obtain ⟨i, _, _, hp⟩ := Stm.firstOf_some _ _ _ _ _ h
  rw [List.isPrefixOf_iff_prefix] at hp
  have := hp.length_le
  rw [List.length_drop] at this
  omega
theorem lit_pref (s : List UInt8) (a : Nat) (c : UInt8) : [c].isPrefixOf (s.drop a) = decide (s[a]? = some c) := by
  rw [Bool.eq_iff_iff, decide_eq_true_eq, List.isPrefixOf_iff_prefix]
  constructor
  · rintro ⟨t, ht⟩
    have := congrArg (fun l : List UInt8 => l[0]?) ht
    simpa using this.symm
  · intro h
    obtain ⟨hlt, rfl⟩ := List.getElem?_eq_some_iff.1 h
    exact ⟨s.drop (a + 1), by rw [List.drop_eq_getElem_cons hlt]; rfl⟩
theorem step_lit {s : List UInt8} {c : UInt8} {st : Stm.St} : Stm.stepP s (.lit c) st = if decide (s[st.at_]? = some c) then ({ st with at_ := st.at_ + 1 }, true) else (st, false) := by
  by_cases h : s[st.at_]? = some c <;> simp [Stm.stepP, h]
theorem step_name_none {s : List UInt8} {k : Nat} {st : Stm.St} (h : Stm.firstOf (s.drop st.at_) (Stm.namesOf k) 0 = none) : Stm.stepP s (.name k) st = (st, false) := by
  simp only [Stm.stepP, h]
theorem step_name_some {s : List UInt8} {k : Nat} {st : Stm.St} {n : Nat} {w : List UInt8} (h : Stm.firstOf (s.drop st.at_) (Stm.namesOf k) 0 = some (n, w)) :
    Stm.stepP s (.name k) st = (Stm.setName k n { st with at_ := st.at_ + w.length }, true) := by
  simp only [Stm.stepP, h]
theorem first_lt (s : List UInt8) (a k n : Nat) (x : List UInt8) (hk : k < 3) (h : Stm.firstOf (s.drop a) (Stm.namesOf k) 0 = some (n, x)) : n < 12 := by
  obtain ⟨i, hi, hx, _⟩ := Stm.firstOf_some _ _ _ _ _ h
  have := (List.getElem?_eq_some_iff.1 hx).1
  rw [names_len k hk] at this
  unfold cntN at this
  split at this <;> omega
theorem step_dig {s : List UInt8} {w : Nat} {b : Bool} {f : Nat} {st : Stm.St} {r : Nat × Int × Bool} (h : Stm.digs s w b st.at_ 0 = r) :
    Stm.stepP s (.dig w b f) st = if r.2.2 then (Stm.setDig f r.2.1 st.at_ { st with at_ := r.1 }, true) else ({ st with at_ := r.1 }, false) := by
  subst h; rfl
theorem run_drop {s : List UInt8} {p : ByteArray} {k : Nat} (h : k < p.size) (st : Stm.St) : Stm.runP s (((L p).drop k).map toPc) st = if (Stm.stepP s (toPc p[k]) st).2 then Stm.runP s (((L p).drop (k + 1)).map toPc) (Stm.stepP s (toPc p[k]) st).1 else Stm.stepP s (toPc p[k]) st := by
  rw [L_drop h, List.map_cons, Stm.runP_cons]
theorem run_drop_of {s : List UInt8} {p : ByteArray} {k : Nat} (h : k < p.size) {st st' : Stm.St} {q : Stm.Pc} {ok : Bool} (hq : toPc p[k] = q) (hs : Stm.stepP s q st = (st', ok)) {R : Stm.St × Bool} (hR : Stm.runP s (((L p).drop k).map toPc) st = R) : (if ok then Stm.runP s (((L p).drop (k + 1)).map toPc) st' else (st', false)) = R := by
  rw [← hR, run_drop h, hq, hs]
  cases ok <;> rfl

theorem zero12 : foundCells Stm.st0 = [.int .i64 0, .int .i64 0, .int .i64 0, .int .i64 0, .int .i64 0, .int .i64 0, .int .i64 0, .int .i64 0, .int .i64 0, .int .i64 0, .int .i64 0, .int .i64 0] := rfl

theorem read_ret {w W : World} {V : Value} {cs : List Value} {b : Bool} {at_ : Int} {a : Act} (hres : Hid (V = .tuple #[.agg cs.toArray, .bool b, .int .i64 at_]))
    (F : CellsAt W w.heap.size cs) (hlen : cs.length = 12) (B : Below w.heap.size w W)
    (h4 : a.tmps[4]? = some (.pointer (some ⟨w.heap.size, 0, none⟩))) (h5 : a.tmps[5]? = some (.bool b)) (h6 : a.tmps[6]? = some (.int .i64 at_)) (hd : a.defers = []) :
    bodyPost Tryz.prog Tryz.f151 (fun e w' => e = Ending.returned V ∧ Below w.heap.size w w') Exit.ret a W := by
  obtain ⟨x0, x1, x2, x3, x4, x5, x6, x7, x8, x9, x10, x11, rfl⟩ : ∃ x0 x1 x2 x3 x4 x5 x6 x7 x8 x9 x10 x11 : Value, cs = [x0, x1, x2, x3, x4, x5, x6, x7, x8, x9, x10, x11] := by
    match cs, hlen with
    | [x0, x1, x2, x3, x4, x5, x6, x7, x8, x9, x10, x11], _ => exact ⟨x0, x1, x2, x3, x4, x5, x6, x7, x8, x9, x10, x11, rfl⟩
  have e0 := F.cell 0 (by simp)
  have e1 := F.cell 1 (by simp)
  have e2 := F.cell 2 (by simp)
  have e3 := F.cell 3 (by simp)
  have e4 := F.cell 4 (by simp)
  have e5 := F.cell 5 (by simp)
  have e6 := F.cell 6 (by simp)
  have e7 := F.cell 7 (by simp)
  have e8 := F.cell 8 (by simp)
  have e9 := F.cell 9 (by simp)
  have e10 := F.cell 10 (by simp)
  have e11 := F.cell 11 (by simp)
  simp only [List.getElem_cons_zero, List.getElem_cons_succ] at e0 e1 e2 e3 e4 e5 e6 e7 e8 e9 e10 e11
  refine bodyPost_ret (v := .tuple #[.agg #[x0, x1, x2, x3, x4, x5, x6, x7, x8, x9, x10, x11], .bool b, .int .i64 at_]) ?_ hd ⟨by rw [hres.out], B⟩
  simp [results, Tryz.results151, go_sem, h4, h5, h6, e0, e1, e2, e3, e4, e5, e6, e7, e8, e9, e10, e11]

set_option maxRecDepth 100000 in
theorem rread_any (s : ByteArray) (form : Nat) (hf : form < 3) (w : World) (hs : s.size ≤ 1099511627) :
    Calls Tryz.prog 151 #[.string s, .int .i64 form] w fun e w' => e = .returned (readV (Stm.runP (L s) (Stm.pcs form) Stm.st0) s.size) ∧ Below w.heap.size w w' := by
  obtain ⟨R, hR⟩ := name_it (Stm.runP (L s) (Stm.pcs form) Stm.st0)
  rw [hR.out]
  obtain ⟨V, hV⟩ := name_it (readV R s.size)
  rw [hV.out]
  obtain ⟨p, hp⟩ := name_it (bs (patL form))
  have hR2 : Hid (Stm.runP (L s) (((L p).drop 0).map toPc) Stm.st0 = R) := by
    rw [← hp.out, List.drop_zero, L_bs, pat_pcs form hf]; exact hR
  have hps : p.size ≤ 18 := by
    rw [← hp.out, size_bs]; unfold patL; split <;> (try split) <;> decide
  clear hR
  have hLs := L_length s
  have HLs := Lib.hid hLs
  clear hLs
  have Z0 := CellsAt.first w (foundCells Stm.st0) 192
  have Z1 := Lib.hid (Z0.next ((Below.refl _ _).alloc (Nat.le_refl _) (.cells (foundCells Stm.st0).toArray 192)))
  have A0 := CellsAt.first (w.alloc (.cells (foundCells Stm.st0).toArray 192)) (foundCells Stm.st0) 192
  have hzz : (w.alloc (.cells (foundCells Stm.st0).toArray 192)).heap.size = w.heap.size + 1 := Array.size_push ..
  rw [hzz] at A0
  have A1 := Lib.hid A0
  have hB0 := (Below.refl w.heap.size w).alloc (Nat.le_refl _) (.cells (foundCells Stm.st0).toArray 192)
  have B1 := Lib.hid (hB0.alloc hB0.size (.cells (foundCells Stm.st0).toArray 192))
  clear Z0 A0 hzz hB0
  go_enter Tryz.func151, Tryz.ntmps151
  go_wp2_with fail
  refine (rpattern_any _ _).mono ?_; rintro e w2 ⟨rfl, rfl⟩
  rw [hp.out]
  go_wp2_with fail
  go_loopw [9, 10] (fun at_ i wq => ∃ (k : Nat) (st : Stm.St), k ≤ p.size ∧ i = .int .i64 k ∧ at_ = .int .i64 st.at_ ∧ st.at_ ≤ s.size ∧ Hid (Stm.runP (L s) (((L p).drop k).map toPc) st = R) ∧
    Hid (CellsAt wq (w.heap.size + 1) (foundCells st)) ∧ Hid (CellsAt wq w.heap.size (foundCells Stm.st0)) ∧ Hid (Below w.heap.size w wq)) (fun _ i _ => p.size - (intOf i).toNat)
  case atStart => exact ⟨0, Stm.st0, Nat.zero_le _, rfl, rfl, Nat.zero_le _, hR2, A1, Z1, B1⟩
  case round =>
    obtain ⟨k, st, hk, rfl, rfl, hat, hrun, A, Z, hbr⟩ := hrel
    clear hR2 A1 Z1 B1
    have hati : (st.at_ : Int) ≤ (s.size : Int) := by omega
    by_cases hlt : k < p.size
    · rcases pick_cases p[k] with hc | hc | hc | hc | hc | hc | hc | hc | hc | hc | hc
      · have hv : (p[k].toNat : Int) = 119 := by rw [hc]; rfl
        obtain ⟨r, hr1⟩ := name_it (Stm.firstOf ((L s).drop st.at_) (Stm.namesOf 0) 0)
        have hq : Hid (toPc p[k] = .name 0) := by rw [hc]; rfl
        clear hc
        go_wp2_with fail
        all_goals (try (exfalso; omega))
        refine (rname0 s st.at_ _ hat hs).mono ?_; rintro e w3 ⟨rfl, hb3⟩
        rw [hr1.out]
        have hbq := hbr.out
        have A3 := Lib.hid (A.out.next hb3)
        have Z3 := Lib.hid (Z.out.next hb3)
        have B3 := Lib.hid (hbq.trans (hb3.mono hbq.size))
        clear hbq hb3 A Z hbr
        have cc := A3.out.cell 0 (by simp [foundCells])
        have gg := A3.out.free 0
        simp only [foundCells, List.getElem_cons_zero] at cc
        cases r with
        | none =>
          have hr : Hid (V = .tuple #[.agg (foundCells Stm.st0).toArray, .bool false, .int .i64 st.at_]) := by
            rw [← hV.out, ← run_drop_of hlt hq.out (step_name_none hr1.out) hrun.out]; rfl
          clear hr1 hq hrun
          unfold nameV
          have z0 := Z3.out.cell 0 (by simp [foundCells])
          have z1 := Z3.out.cell 1 (by simp [foundCells])
          have z2 := Z3.out.cell 2 (by simp [foundCells])
          have z3 := Z3.out.cell 3 (by simp [foundCells])
          have z4 := Z3.out.cell 4 (by simp [foundCells])
          have z5 := Z3.out.cell 5 (by simp [foundCells])
          have z6 := Z3.out.cell 6 (by simp [foundCells])
          have z7 := Z3.out.cell 7 (by simp [foundCells])
          have z8 := Z3.out.cell 8 (by simp [foundCells])
          have z9 := Z3.out.cell 9 (by simp [foundCells])
          have z10 := Z3.out.cell 10 (by simp [foundCells])
          have z11 := Z3.out.cell 11 (by simp [foundCells])
          have y0 := Z3.out.free 0
          have y1 := Z3.out.free 1
          have y2 := Z3.out.free 2
          have y3 := Z3.out.free 3
          have y4 := Z3.out.free 4
          have y5 := Z3.out.free 5
          have y6 := Z3.out.free 6
          have y7 := Z3.out.free 7
          have y8 := Z3.out.free 8
          have y9 := Z3.out.free 9
          have y10 := Z3.out.free 10
          have y11 := Z3.out.free 11
          simp only [foundCells, Stm.st0, List.getElem_cons_zero, List.getElem_cons_succ] at z0 z1 z2 z3 z4 z5 z6 z7 z8 z9 z10 z11
          go_wp2_with fail
          all_goals (try (exfalso; omega))
          have F : CellsAt _ w.heap.size (foundCells Stm.st0) := (((((((((((((Z3.out.other (c := w.heap.size + 1) (by omega) 0 (.int .i64 (-1))).set 0 (by simp [foundCells]) (.int .i64 0)).set 1 (by simp [foundCells]) (.int .i64 0)).set 2 (by simp [foundCells]) (.int .i64 0)).set 3 (by simp [foundCells]) (.int .i64 0)).set 4 (by simp [foundCells]) (.int .i64 0)).set 5 (by simp [foundCells]) (.int .i64 0)).set 6 (by simp [foundCells]) (.int .i64 0)).set 7 (by simp [foundCells]) (.int .i64 0)).set 8 (by simp [foundCells]) (.int .i64 0)).set 9 (by simp [foundCells]) (.int .i64 0)).set 10 (by simp [foundCells]) (.int .i64 0)).set 11 (by simp [foundCells]) (.int .i64 0))
          have B := (((((((((((((B3.out.setCell (p := ⟨w.heap.size + 1, 0, none⟩) (by show w.heap.size ≤ w.heap.size + 1; omega) (.int .i64 (-1))).setCell (p := ⟨w.heap.size, 0, none⟩) (Nat.le_refl _) (.int .i64 0)).setCell (p := ⟨w.heap.size, 1, none⟩) (Nat.le_refl _) (.int .i64 0)).setCell (p := ⟨w.heap.size, 2, none⟩) (Nat.le_refl _) (.int .i64 0)).setCell (p := ⟨w.heap.size, 3, none⟩) (Nat.le_refl _) (.int .i64 0)).setCell (p := ⟨w.heap.size, 4, none⟩) (Nat.le_refl _) (.int .i64 0)).setCell (p := ⟨w.heap.size, 5, none⟩) (Nat.le_refl _) (.int .i64 0)).setCell (p := ⟨w.heap.size, 6, none⟩) (Nat.le_refl _) (.int .i64 0)).setCell (p := ⟨w.heap.size, 7, none⟩) (Nat.le_refl _) (.int .i64 0)).setCell (p := ⟨w.heap.size, 8, none⟩) (Nat.le_refl _) (.int .i64 0)).setCell (p := ⟨w.heap.size, 9, none⟩) (Nat.le_refl _) (.int .i64 0)).setCell (p := ⟨w.heap.size, 10, none⟩) (Nat.le_refl _) (.int .i64 0)).setCell (p := ⟨w.heap.size, 11, none⟩) (Nat.le_refl _) (.int .i64 0))
          refine (fun (key : ∀ W, CellsAt W w.heap.size (foundCells Stm.st0) → Below w.heap.size w W → bodyPost _ _ _ _ _ W) => key _ F B) ?_
          intro W F B
          exact read_ret hr F rfl B rfl rfl rfl rfl
        | some q =>
          obtain ⟨n, x⟩ := q
          have hle2 : (st.at_ : Int) + x.length ≤ s.size := by have := first_le (L s) st.at_ 0 n x hr1.out (by rw [HLs.out]; exact hat); rw [HLs.out] at this; omega
          have hnx : Hid (Stm.runP (L s) (((L p).drop (k + 1)).map toPc) (Stm.setName 0 n { st with at_ := st.at_ + x.length }) = R) := run_drop_of hlt hq.out (step_name_some hr1.out) hrun.out
          have hn12 : (n : Int) ≤ 11 := by have := first_lt (L s) st.at_ 0 n x (by decide) hr1.out; omega
          clear hr1 hq hrun
          unfold nameV
          go_wp2_with fail
          all_goals (try (exfalso; omega))
          go_roundw
          case rel => exact ⟨k + 1, Stm.setName 0 n { st with at_ := st.at_ + x.length }, by omega, by go_num, by go_num, by rw [Stm.at_setName]; show st.at_ + x.length ≤ s.size; omega, hnx, (A3.out.set 0 (by simp [foundCells]) (.int .i64 n)), (Z3.out.other (c := w.heap.size + 1) (by omega) 0 (.int .i64 n)), (B3.out.setCell (p := ⟨w.heap.size + 1, 0, none⟩) (by show w.heap.size ≤ w.heap.size + 1; omega) (.int .i64 n))⟩
          case measure => simp [intOf]; omega
      · have hv : (p[k].toNat : Int) = 108 := by rw [hc]; rfl
        obtain ⟨r, hr1⟩ := name_it (Stm.firstOf ((L s).drop st.at_) (Stm.namesOf 1) 0)
        have hq : Hid (toPc p[k] = .name 1) := by rw [hc]; rfl
        clear hc
        go_wp2_with fail
        all_goals (try (exfalso; omega))
        refine (rname1 s st.at_ _ hat hs).mono ?_; rintro e w3 ⟨rfl, hb3⟩
        rw [hr1.out]
        have hbq := hbr.out
        have A3 := Lib.hid (A.out.next hb3)
        have Z3 := Lib.hid (Z.out.next hb3)
        have B3 := Lib.hid (hbq.trans (hb3.mono hbq.size))
        clear hbq hb3 A Z hbr
        have cc := A3.out.cell 0 (by simp [foundCells])
        have gg := A3.out.free 0
        simp only [foundCells, List.getElem_cons_zero] at cc
        cases r with
        | none =>
          have hr : Hid (V = .tuple #[.agg (foundCells Stm.st0).toArray, .bool false, .int .i64 st.at_]) := by
            rw [← hV.out, ← run_drop_of hlt hq.out (step_name_none hr1.out) hrun.out]; rfl
          clear hr1 hq hrun
          unfold nameV
          have z0 := Z3.out.cell 0 (by simp [foundCells])
          have z1 := Z3.out.cell 1 (by simp [foundCells])
          have z2 := Z3.out.cell 2 (by simp [foundCells])
          have z3 := Z3.out.cell 3 (by simp [foundCells])
          have z4 := Z3.out.cell 4 (by simp [foundCells])
          have z5 := Z3.out.cell 5 (by simp [foundCells])
          have z6 := Z3.out.cell 6 (by simp [foundCells])
          have z7 := Z3.out.cell 7 (by simp [foundCells])
          have z8 := Z3.out.cell 8 (by simp [foundCells])
          have z9 := Z3.out.cell 9 (by simp [foundCells])
          have z10 := Z3.out.cell 10 (by simp [foundCells])
          have z11 := Z3.out.cell 11 (by simp [foundCells])
          have y0 := Z3.out.free 0
          have y1 := Z3.out.free 1
          have y2 := Z3.out.free 2
          have y3 := Z3.out.free 3
          have y4 := Z3.out.free 4
          have y5 := Z3.out.free 5
          have y6 := Z3.out.free 6
          have y7 := Z3.out.free 7
          have y8 := Z3.out.free 8
          have y9 := Z3.out.free 9
          have y10 := Z3.out.free 10
          have y11 := Z3.out.free 11
          simp only [foundCells, Stm.st0, List.getElem_cons_zero, List.getElem_cons_succ] at z0 z1 z2 z3 z4 z5 z6 z7 z8 z9 z10 z11
          go_wp2_with fail
          all_goals (try (exfalso; omega))
          have F : CellsAt _ w.heap.size (foundCells Stm.st0) := (((((((((((((Z3.out.other (c := w.heap.size + 1) (by omega) 0 (.int .i64 (-1))).set 0 (by simp [foundCells]) (.int .i64 0)).set 1 (by simp [foundCells]) (.int .i64 0)).set 2 (by simp [foundCells]) (.int .i64 0)).set 3 (by simp [foundCells]) (.int .i64 0)).set 4 (by simp [foundCells]) (.int .i64 0)).set 5 (by simp [foundCells]) (.int .i64 0)).set 6 (by simp [foundCells]) (.int .i64 0)).set 7 (by simp [foundCells]) (.int .i64 0)).set 8 (by simp [foundCells]) (.int .i64 0)).set 9 (by simp [foundCells]) (.int .i64 0)).set 10 (by simp [foundCells]) (.int .i64 0)).set 11 (by simp [foundCells]) (.int .i64 0))
          have B := (((((((((((((B3.out.setCell (p := ⟨w.heap.size + 1, 0, none⟩) (by show w.heap.size ≤ w.heap.size + 1; omega) (.int .i64 (-1))).setCell (p := ⟨w.heap.size, 0, none⟩) (Nat.le_refl _) (.int .i64 0)).setCell (p := ⟨w.heap.size, 1, none⟩) (Nat.le_refl _) (.int .i64 0)).setCell (p := ⟨w.heap.size, 2, none⟩) (Nat.le_refl _) (.int .i64 0)).setCell (p := ⟨w.heap.size, 3, none⟩) (Nat.le_refl _) (.int .i64 0)).setCell (p := ⟨w.heap.size, 4, none⟩) (Nat.le_refl _) (.int .i64 0)).setCell (p := ⟨w.heap.size, 5, none⟩) (Nat.le_refl _) (.int .i64 0)).setCell (p := ⟨w.heap.size, 6, none⟩) (Nat.le_refl _) (.int .i64 0)).setCell (p := ⟨w.heap.size, 7, none⟩) (Nat.le_refl _) (.int .i64 0)).setCell (p := ⟨w.heap.size, 8, none⟩) (Nat.le_refl _) (.int .i64 0)).setCell (p := ⟨w.heap.size, 9, none⟩) (Nat.le_refl _) (.int .i64 0)).setCell (p := ⟨w.heap.size, 10, none⟩) (Nat.le_refl _) (.int .i64 0)).setCell (p := ⟨w.heap.size, 11, none⟩) (Nat.le_refl _) (.int .i64 0))
          refine (fun (key : ∀ W, CellsAt W w.heap.size (foundCells Stm.st0) → Below w.heap.size w W → bodyPost _ _ _ _ _ W) => key _ F B) ?_
          intro W F B
          exact read_ret hr F rfl B rfl rfl rfl rfl
        | some q =>
          obtain ⟨n, x⟩ := q
          have hle2 : (st.at_ : Int) + x.length ≤ s.size := by have := first_le (L s) st.at_ 1 n x hr1.out (by rw [HLs.out]; exact hat); rw [HLs.out] at this; omega
          have hnx : Hid (Stm.runP (L s) (((L p).drop (k + 1)).map toPc) (Stm.setName 1 n { st with at_ := st.at_ + x.length }) = R) := run_drop_of hlt hq.out (step_name_some hr1.out) hrun.out
          have hn12 : (n : Int) ≤ 11 := by have := first_lt (L s) st.at_ 1 n x (by decide) hr1.out; omega
          clear hr1 hq hrun
          unfold nameV
          go_wp2_with fail
          all_goals (try (exfalso; omega))
          go_roundw
          case rel => exact ⟨k + 1, Stm.setName 1 n { st with at_ := st.at_ + x.length }, by omega, by go_num, by go_num, by rw [Stm.at_setName]; show st.at_ + x.length ≤ s.size; omega, hnx, (A3.out.set 0 (by simp [foundCells]) (.int .i64 n)), (Z3.out.other (c := w.heap.size + 1) (by omega) 0 (.int .i64 n)), (B3.out.setCell (p := ⟨w.heap.size + 1, 0, none⟩) (by show w.heap.size ≤ w.heap.size + 1; omega) (.int .i64 n))⟩
          case measure => simp [intOf]; omega
      · have hv : (p[k].toNat : Int) = 109 := by rw [hc]; rfl
        obtain ⟨r, hr1⟩ := name_it (Stm.firstOf ((L s).drop st.at_) (Stm.namesOf 2) 0)
        have hq : Hid (toPc p[k] = .name 2) := by rw [hc]; rfl
        clear hc
        go_wp2_with fail
        all_goals (try (exfalso; omega))
        refine (rname2 s st.at_ _ hat hs).mono ?_; rintro e w3 ⟨rfl, hb3⟩
        rw [hr1.out]
        have hbq := hbr.out
        have A3 := Lib.hid (A.out.next hb3)
        have Z3 := Lib.hid (Z.out.next hb3)
        have B3 := Lib.hid (hbq.trans (hb3.mono hbq.size))
        clear hbq hb3 A Z hbr
        have cc := A3.out.cell 1 (by simp [foundCells])
        have gg := A3.out.free 1
        simp only [foundCells, List.getElem_cons_zero, List.getElem_cons_succ] at cc
        cases r with
        | none =>
          have hr : Hid (V = .tuple #[.agg (foundCells Stm.st0).toArray, .bool false, .int .i64 st.at_]) := by
            rw [← hV.out, ← run_drop_of hlt hq.out (step_name_none hr1.out) hrun.out]; rfl
          clear hr1 hq hrun
          unfold nameV
          have z0 := Z3.out.cell 0 (by simp [foundCells])
          have z1 := Z3.out.cell 1 (by simp [foundCells])
          have z2 := Z3.out.cell 2 (by simp [foundCells])
          have z3 := Z3.out.cell 3 (by simp [foundCells])
          have z4 := Z3.out.cell 4 (by simp [foundCells])
          have z5 := Z3.out.cell 5 (by simp [foundCells])
          have z6 := Z3.out.cell 6 (by simp [foundCells])
          have z7 := Z3.out.cell 7 (by simp [foundCells])
          have z8 := Z3.out.cell 8 (by simp [foundCells])
          have z9 := Z3.out.cell 9 (by simp [foundCells])
          have z10 := Z3.out.cell 10 (by simp [foundCells])
          have z11 := Z3.out.cell 11 (by simp [foundCells])
          have y0 := Z3.out.free 0
          have y1 := Z3.out.free 1
          have y2 := Z3.out.free 2
          have y3 := Z3.out.free 3
          have y4 := Z3.out.free 4
          have y5 := Z3.out.free 5
          have y6 := Z3.out.free 6
          have y7 := Z3.out.free 7
          have y8 := Z3.out.free 8
          have y9 := Z3.out.free 9
          have y10 := Z3.out.free 10
          have y11 := Z3.out.free 11
          simp only [foundCells, Stm.st0, List.getElem_cons_zero, List.getElem_cons_succ] at z0 z1 z2 z3 z4 z5 z6 z7 z8 z9 z10 z11
          go_wp2_with fail
          all_goals (try (exfalso; omega))
          have F : CellsAt _ w.heap.size (foundCells Stm.st0) := (((((((((((((Z3.out.other (c := w.heap.size + 1) (by omega) 1 (.int .i64 0)).set 0 (by simp [foundCells]) (.int .i64 0)).set 1 (by simp [foundCells]) (.int .i64 0)).set 2 (by simp [foundCells]) (.int .i64 0)).set 3 (by simp [foundCells]) (.int .i64 0)).set 4 (by simp [foundCells]) (.int .i64 0)).set 5 (by simp [foundCells]) (.int .i64 0)).set 6 (by simp [foundCells]) (.int .i64 0)).set 7 (by simp [foundCells]) (.int .i64 0)).set 8 (by simp [foundCells]) (.int .i64 0)).set 9 (by simp [foundCells]) (.int .i64 0)).set 10 (by simp [foundCells]) (.int .i64 0)).set 11 (by simp [foundCells]) (.int .i64 0))
          have B := (((((((((((((B3.out.setCell (p := ⟨w.heap.size + 1, 1, none⟩) (by show w.heap.size ≤ w.heap.size + 1; omega) (.int .i64 0)).setCell (p := ⟨w.heap.size, 0, none⟩) (Nat.le_refl _) (.int .i64 0)).setCell (p := ⟨w.heap.size, 1, none⟩) (Nat.le_refl _) (.int .i64 0)).setCell (p := ⟨w.heap.size, 2, none⟩) (Nat.le_refl _) (.int .i64 0)).setCell (p := ⟨w.heap.size, 3, none⟩) (Nat.le_refl _) (.int .i64 0)).setCell (p := ⟨w.heap.size, 4, none⟩) (Nat.le_refl _) (.int .i64 0)).setCell (p := ⟨w.heap.size, 5, none⟩) (Nat.le_refl _) (.int .i64 0)).setCell (p := ⟨w.heap.size, 6, none⟩) (Nat.le_refl _) (.int .i64 0)).setCell (p := ⟨w.heap.size, 7, none⟩) (Nat.le_refl _) (.int .i64 0)).setCell (p := ⟨w.heap.size, 8, none⟩) (Nat.le_refl _) (.int .i64 0)).setCell (p := ⟨w.heap.size, 9, none⟩) (Nat.le_refl _) (.int .i64 0)).setCell (p := ⟨w.heap.size, 10, none⟩) (Nat.le_refl _) (.int .i64 0)).setCell (p := ⟨w.heap.size, 11, none⟩) (Nat.le_refl _) (.int .i64 0))
          refine (fun (key : ∀ W, CellsAt W w.heap.size (foundCells Stm.st0) → Below w.heap.size w W → bodyPost _ _ _ _ _ W) => key _ F B) ?_
          intro W F B
          exact read_ret hr F rfl B rfl rfl rfl rfl
        | some q =>
          obtain ⟨n, x⟩ := q
          have hle2 : (st.at_ : Int) + x.length ≤ s.size := by have := first_le (L s) st.at_ 2 n x hr1.out (by rw [HLs.out]; exact hat); rw [HLs.out] at this; omega
          have hnx : Hid (Stm.runP (L s) (((L p).drop (k + 1)).map toPc) (Stm.setName 2 n { st with at_ := st.at_ + x.length }) = R) := run_drop_of hlt hq.out (step_name_some hr1.out) hrun.out
          have hn12 : (n : Int) ≤ 11 := by have := first_lt (L s) st.at_ 2 n x (by decide) hr1.out; omega
          clear hr1 hq hrun
          unfold nameV
          go_wp2_with fail
          all_goals (try (exfalso; omega))
          go_roundw
          case rel => exact ⟨k + 1, Stm.setName 2 n { st with at_ := st.at_ + x.length }, by omega, by go_num, by go_num, by rw [Stm.at_setName]; show st.at_ + x.length ≤ s.size; omega, hnx, (A3.out.set 1 (by simp [foundCells]) (.int .i64 ((n : Int) + 1))), (Z3.out.other (c := w.heap.size + 1) (by omega) 1 (.int .i64 ((n : Int) + 1))), (B3.out.setCell (p := ⟨w.heap.size + 1, 1, none⟩) (by show w.heap.size ≤ w.heap.size + 1; omega) (.int .i64 ((n : Int) + 1)))⟩
          case measure => simp [intOf]; omega
      · have hv : (p[k].toNat : Int) = 100 := by rw [hc]; rfl
        obtain ⟨r, hr1⟩ := name_it (Stm.digs (L s) 2 false st.at_ 0)
        have hst := Lib.hid (step_dig (s := L s) (w := 2) (b := false) (f := 0) (st := st) hr1.out)
        have hle := digs_le (L s) 2 false st.at_ 0 (by rw [HLs.out]; exact hat) (by omega)
        rw [hr1.out, HLs.out] at hle
        have hq : Hid (toPc p[k] = .dig 2 false 0) := by rw [hc]; rfl
        clear hc
        go_wp2_with fail
        all_goals (try (exfalso; omega))
        refine (rnumber_any s st.at_ 2 false _ hat hs (by decide)).mono ?_; rintro e w3 ⟨rfl, rfl⟩
        rw [hr1.out]
        clear hr1
        have cc := A.out.cell 2 (by simp [foundCells])
        have gg := A.out.free 2
        have cd := A.out.cell 7 (by simp [foundCells])
        have gd := A.out.free 7
        simp only [foundCells, List.getElem_cons_zero, List.getElem_cons_succ] at cc cd
        obtain ⟨b1, v, ok⟩ := r
        dsimp only at hle hst
        obtain ⟨hle1, hle2⟩ := hle
        have hle3 : (b1 : Int) ≤ s.size := by omega
        cases ok
        · have hr : Hid (V = .tuple #[.agg (foundCells Stm.st0).toArray, .bool false, .int .i64 b1]) := by
            rw [← hV.out, ← run_drop_of hlt hq.out hst.out hrun.out]; rfl
          clear hst hq hrun
          rw [show numV (b1, v, false) = .tuple #[.int .i64 (-1), .int .i64 b1] from rfl]
          have z0 := Z.out.cell 0 (by simp [foundCells])
          have z1 := Z.out.cell 1 (by simp [foundCells])
          have z2 := Z.out.cell 2 (by simp [foundCells])
          have z3 := Z.out.cell 3 (by simp [foundCells])
          have z4 := Z.out.cell 4 (by simp [foundCells])
          have z5 := Z.out.cell 5 (by simp [foundCells])
          have z6 := Z.out.cell 6 (by simp [foundCells])
          have z7 := Z.out.cell 7 (by simp [foundCells])
          have z8 := Z.out.cell 8 (by simp [foundCells])
          have z9 := Z.out.cell 9 (by simp [foundCells])
          have z10 := Z.out.cell 10 (by simp [foundCells])
          have z11 := Z.out.cell 11 (by simp [foundCells])
          have y0 := Z.out.free 0
          have y1 := Z.out.free 1
          have y2 := Z.out.free 2
          have y3 := Z.out.free 3
          have y4 := Z.out.free 4
          have y5 := Z.out.free 5
          have y6 := Z.out.free 6
          have y7 := Z.out.free 7
          have y8 := Z.out.free 8
          have y9 := Z.out.free 9
          have y10 := Z.out.free 10
          have y11 := Z.out.free 11
          simp only [foundCells, Stm.st0, List.getElem_cons_zero, List.getElem_cons_succ] at z0 z1 z2 z3 z4 z5 z6 z7 z8 z9 z10 z11
          go_wp2_with fail
          all_goals (try (exfalso; omega))
          have F : CellsAt _ w.heap.size (foundCells Stm.st0) := ((((((((((((((Z.out.other (c := w.heap.size + 1) (by omega) 2 (.int .i64 (-1))).other (c := w.heap.size + 1) (by omega) 7 (.int .i64 st.at_)).set 0 (by simp [foundCells]) (.int .i64 0)).set 1 (by simp [foundCells]) (.int .i64 0)).set 2 (by simp [foundCells]) (.int .i64 0)).set 3 (by simp [foundCells]) (.int .i64 0)).set 4 (by simp [foundCells]) (.int .i64 0)).set 5 (by simp [foundCells]) (.int .i64 0)).set 6 (by simp [foundCells]) (.int .i64 0)).set 7 (by simp [foundCells]) (.int .i64 0)).set 8 (by simp [foundCells]) (.int .i64 0)).set 9 (by simp [foundCells]) (.int .i64 0)).set 10 (by simp [foundCells]) (.int .i64 0)).set 11 (by simp [foundCells]) (.int .i64 0))
          have B := ((((((((((((((hbr.out.setCell (p := ⟨w.heap.size + 1, 2, none⟩) (by show w.heap.size ≤ w.heap.size + 1; omega) (.int .i64 (-1))).setCell (p := ⟨w.heap.size + 1, 7, none⟩) (by show w.heap.size ≤ w.heap.size + 1; omega) (.int .i64 st.at_)).setCell (p := ⟨w.heap.size, 0, none⟩) (Nat.le_refl _) (.int .i64 0)).setCell (p := ⟨w.heap.size, 1, none⟩) (Nat.le_refl _) (.int .i64 0)).setCell (p := ⟨w.heap.size, 2, none⟩) (Nat.le_refl _) (.int .i64 0)).setCell (p := ⟨w.heap.size, 3, none⟩) (Nat.le_refl _) (.int .i64 0)).setCell (p := ⟨w.heap.size, 4, none⟩) (Nat.le_refl _) (.int .i64 0)).setCell (p := ⟨w.heap.size, 5, none⟩) (Nat.le_refl _) (.int .i64 0)).setCell (p := ⟨w.heap.size, 6, none⟩) (Nat.le_refl _) (.int .i64 0)).setCell (p := ⟨w.heap.size, 7, none⟩) (Nat.le_refl _) (.int .i64 0)).setCell (p := ⟨w.heap.size, 8, none⟩) (Nat.le_refl _) (.int .i64 0)).setCell (p := ⟨w.heap.size, 9, none⟩) (Nat.le_refl _) (.int .i64 0)).setCell (p := ⟨w.heap.size, 10, none⟩) (Nat.le_refl _) (.int .i64 0)).setCell (p := ⟨w.heap.size, 11, none⟩) (Nat.le_refl _) (.int .i64 0))
          refine (fun (key : ∀ W, CellsAt W w.heap.size (foundCells Stm.st0) → Below w.heap.size w W → bodyPost _ _ _ _ _ W) => key _ F B) ?_
          intro W F B
          exact read_ret hr F rfl B rfl rfl rfl rfl
        · have hnx : Hid (Stm.runP (L s) (((L p).drop (k + 1)).map toPc) (Stm.setDig 0 v st.at_ { st with at_ := b1 }) = R) := run_drop_of hlt hq.out hst.out hrun.out
          clear hst hq hrun
          rw [show numV (b1, v, true) = .tuple #[.int .i64 v, .int .i64 b1] from rfl]
          go_wp2_with fail
          all_goals (try (exfalso; omega))
          go_roundw
          case rel => exact ⟨k + 1, Stm.setDig 0 v st.at_ { st with at_ := b1 }, by omega, by go_num, by go_num, by rw [Stm.at_setDig]; exact hle1, hnx, ((A.out.set 2 (by simp [foundCells]) (.int .i64 v)).set 7 (by simp [foundCells]) (.int .i64 st.at_)), ((Z.out.other (c := w.heap.size + 1) (by omega) 2 (.int .i64 v)).other (c := w.heap.size + 1) (by omega) 7 (.int .i64 st.at_)), ((hbr.out.setCell (p := ⟨w.heap.size + 1, 2, none⟩) (by show w.heap.size ≤ w.heap.size + 1; omega) (.int .i64 v)).setCell (p := ⟨w.heap.size + 1, 7, none⟩) (by show w.heap.size ≤ w.heap.size + 1; omega) (.int .i64 st.at_))⟩
          case measure => simp [intOf]; omega
      · have hv : (p[k].toNat : Int) = 101 := by rw [hc]; rfl
        obtain ⟨r, hr1⟩ := name_it (Stm.digs (L s) 2 true st.at_ 0)
        have hst := Lib.hid (step_dig (s := L s) (w := 2) (b := true) (f := 0) (st := st) hr1.out)
        have hle := digs_le (L s) 2 true st.at_ 0 (by rw [HLs.out]; exact hat) (by omega)
        rw [hr1.out, HLs.out] at hle
        have hq : Hid (toPc p[k] = .dig 2 true 0) := by rw [hc]; rfl
        clear hc
        go_wp2_with fail
        all_goals (try (exfalso; omega))
        refine (rnumber_any s st.at_ 2 true _ hat hs (by decide)).mono ?_; rintro e w3 ⟨rfl, rfl⟩
        rw [hr1.out]
        clear hr1
        have cc := A.out.cell 2 (by simp [foundCells])
        have gg := A.out.free 2
        have cd := A.out.cell 7 (by simp [foundCells])
        have gd := A.out.free 7
        simp only [foundCells, List.getElem_cons_zero, List.getElem_cons_succ] at cc cd
        obtain ⟨b1, v, ok⟩ := r
        dsimp only at hle hst
        obtain ⟨hle1, hle2⟩ := hle
        have hle3 : (b1 : Int) ≤ s.size := by omega
        cases ok
        · have hr : Hid (V = .tuple #[.agg (foundCells Stm.st0).toArray, .bool false, .int .i64 b1]) := by
            rw [← hV.out, ← run_drop_of hlt hq.out hst.out hrun.out]; rfl
          clear hst hq hrun
          rw [show numV (b1, v, false) = .tuple #[.int .i64 (-1), .int .i64 b1] from rfl]
          have z0 := Z.out.cell 0 (by simp [foundCells])
          have z1 := Z.out.cell 1 (by simp [foundCells])
          have z2 := Z.out.cell 2 (by simp [foundCells])
          have z3 := Z.out.cell 3 (by simp [foundCells])
          have z4 := Z.out.cell 4 (by simp [foundCells])
          have z5 := Z.out.cell 5 (by simp [foundCells])
          have z6 := Z.out.cell 6 (by simp [foundCells])
          have z7 := Z.out.cell 7 (by simp [foundCells])
          have z8 := Z.out.cell 8 (by simp [foundCells])
          have z9 := Z.out.cell 9 (by simp [foundCells])
          have z10 := Z.out.cell 10 (by simp [foundCells])
          have z11 := Z.out.cell 11 (by simp [foundCells])
          have y0 := Z.out.free 0
          have y1 := Z.out.free 1
          have y2 := Z.out.free 2
          have y3 := Z.out.free 3
          have y4 := Z.out.free 4
          have y5 := Z.out.free 5
          have y6 := Z.out.free 6
          have y7 := Z.out.free 7
          have y8 := Z.out.free 8
          have y9 := Z.out.free 9
          have y10 := Z.out.free 10
          have y11 := Z.out.free 11
          simp only [foundCells, Stm.st0, List.getElem_cons_zero, List.getElem_cons_succ] at z0 z1 z2 z3 z4 z5 z6 z7 z8 z9 z10 z11
          go_wp2_with fail
          all_goals (try (exfalso; omega))
          have F : CellsAt _ w.heap.size (foundCells Stm.st0) := ((((((((((((((Z.out.other (c := w.heap.size + 1) (by omega) 2 (.int .i64 (-1))).other (c := w.heap.size + 1) (by omega) 7 (.int .i64 st.at_)).set 0 (by simp [foundCells]) (.int .i64 0)).set 1 (by simp [foundCells]) (.int .i64 0)).set 2 (by simp [foundCells]) (.int .i64 0)).set 3 (by simp [foundCells]) (.int .i64 0)).set 4 (by simp [foundCells]) (.int .i64 0)).set 5 (by simp [foundCells]) (.int .i64 0)).set 6 (by simp [foundCells]) (.int .i64 0)).set 7 (by simp [foundCells]) (.int .i64 0)).set 8 (by simp [foundCells]) (.int .i64 0)).set 9 (by simp [foundCells]) (.int .i64 0)).set 10 (by simp [foundCells]) (.int .i64 0)).set 11 (by simp [foundCells]) (.int .i64 0))
          have B := ((((((((((((((hbr.out.setCell (p := ⟨w.heap.size + 1, 2, none⟩) (by show w.heap.size ≤ w.heap.size + 1; omega) (.int .i64 (-1))).setCell (p := ⟨w.heap.size + 1, 7, none⟩) (by show w.heap.size ≤ w.heap.size + 1; omega) (.int .i64 st.at_)).setCell (p := ⟨w.heap.size, 0, none⟩) (Nat.le_refl _) (.int .i64 0)).setCell (p := ⟨w.heap.size, 1, none⟩) (Nat.le_refl _) (.int .i64 0)).setCell (p := ⟨w.heap.size, 2, none⟩) (Nat.le_refl _) (.int .i64 0)).setCell (p := ⟨w.heap.size, 3, none⟩) (Nat.le_refl _) (.int .i64 0)).setCell (p := ⟨w.heap.size, 4, none⟩) (Nat.le_refl _) (.int .i64 0)).setCell (p := ⟨w.heap.size, 5, none⟩) (Nat.le_refl _) (.int .i64 0)).setCell (p := ⟨w.heap.size, 6, none⟩) (Nat.le_refl _) (.int .i64 0)).setCell (p := ⟨w.heap.size, 7, none⟩) (Nat.le_refl _) (.int .i64 0)).setCell (p := ⟨w.heap.size, 8, none⟩) (Nat.le_refl _) (.int .i64 0)).setCell (p := ⟨w.heap.size, 9, none⟩) (Nat.le_refl _) (.int .i64 0)).setCell (p := ⟨w.heap.size, 10, none⟩) (Nat.le_refl _) (.int .i64 0)).setCell (p := ⟨w.heap.size, 11, none⟩) (Nat.le_refl _) (.int .i64 0))
          refine (fun (key : ∀ W, CellsAt W w.heap.size (foundCells Stm.st0) → Below w.heap.size w W → bodyPost _ _ _ _ _ W) => key _ F B) ?_
          intro W F B
          exact read_ret hr F rfl B rfl rfl rfl rfl
        · have hnx : Hid (Stm.runP (L s) (((L p).drop (k + 1)).map toPc) (Stm.setDig 0 v st.at_ { st with at_ := b1 }) = R) := run_drop_of hlt hq.out hst.out hrun.out
          clear hst hq hrun
          rw [show numV (b1, v, true) = .tuple #[.int .i64 v, .int .i64 b1] from rfl]
          go_wp2_with fail
          all_goals (try (exfalso; omega))
          go_roundw
          case rel => exact ⟨k + 1, Stm.setDig 0 v st.at_ { st with at_ := b1 }, by omega, by go_num, by go_num, by rw [Stm.at_setDig]; exact hle1, hnx, ((A.out.set 2 (by simp [foundCells]) (.int .i64 v)).set 7 (by simp [foundCells]) (.int .i64 st.at_)), ((Z.out.other (c := w.heap.size + 1) (by omega) 2 (.int .i64 v)).other (c := w.heap.size + 1) (by omega) 7 (.int .i64 st.at_)), ((hbr.out.setCell (p := ⟨w.heap.size + 1, 2, none⟩) (by show w.heap.size ≤ w.heap.size + 1; omega) (.int .i64 v)).setCell (p := ⟨w.heap.size + 1, 7, none⟩) (by show w.heap.size ≤ w.heap.size + 1; omega) (.int .i64 st.at_))⟩
          case measure => simp [intOf]; omega
      · have hv : (p[k].toNat : Int) = 121 := by rw [hc]; rfl
        obtain ⟨r, hr1⟩ := name_it (Stm.digs (L s) 4 false st.at_ 0)
        have hst := Lib.hid (step_dig (s := L s) (w := 4) (b := false) (f := 1) (st := st) hr1.out)
        have hle := digs_le (L s) 4 false st.at_ 0 (by rw [HLs.out]; exact hat) (by omega)
        rw [hr1.out, HLs.out] at hle
        have hq : Hid (toPc p[k] = .dig 4 false 1) := by rw [hc]; rfl
        clear hc
        go_wp2_with fail
        all_goals (try (exfalso; omega))
        refine (rnumber_any s st.at_ 4 false _ hat hs (by decide)).mono ?_; rintro e w3 ⟨rfl, rfl⟩
        rw [hr1.out]
        clear hr1
        have cc := A.out.cell 3 (by simp [foundCells])
        have gg := A.out.free 3
        have cd := A.out.cell 8 (by simp [foundCells])
        have gd := A.out.free 8
        simp only [foundCells, List.getElem_cons_zero, List.getElem_cons_succ] at cc cd
        obtain ⟨b1, v, ok⟩ := r
        dsimp only at hle hst
        obtain ⟨hle1, hle2⟩ := hle
        have hle3 : (b1 : Int) ≤ s.size := by omega
        cases ok
        · have hr : Hid (V = .tuple #[.agg (foundCells Stm.st0).toArray, .bool false, .int .i64 b1]) := by
            rw [← hV.out, ← run_drop_of hlt hq.out hst.out hrun.out]; rfl
          clear hst hq hrun
          rw [show numV (b1, v, false) = .tuple #[.int .i64 (-1), .int .i64 b1] from rfl]
          have z0 := Z.out.cell 0 (by simp [foundCells])
          have z1 := Z.out.cell 1 (by simp [foundCells])
          have z2 := Z.out.cell 2 (by simp [foundCells])
          have z3 := Z.out.cell 3 (by simp [foundCells])
          have z4 := Z.out.cell 4 (by simp [foundCells])
          have z5 := Z.out.cell 5 (by simp [foundCells])
          have z6 := Z.out.cell 6 (by simp [foundCells])
          have z7 := Z.out.cell 7 (by simp [foundCells])
          have z8 := Z.out.cell 8 (by simp [foundCells])
          have z9 := Z.out.cell 9 (by simp [foundCells])
          have z10 := Z.out.cell 10 (by simp [foundCells])
          have z11 := Z.out.cell 11 (by simp [foundCells])
          have y0 := Z.out.free 0
          have y1 := Z.out.free 1
          have y2 := Z.out.free 2
          have y3 := Z.out.free 3
          have y4 := Z.out.free 4
          have y5 := Z.out.free 5
          have y6 := Z.out.free 6
          have y7 := Z.out.free 7
          have y8 := Z.out.free 8
          have y9 := Z.out.free 9
          have y10 := Z.out.free 10
          have y11 := Z.out.free 11
          simp only [foundCells, Stm.st0, List.getElem_cons_zero, List.getElem_cons_succ] at z0 z1 z2 z3 z4 z5 z6 z7 z8 z9 z10 z11
          go_wp2_with fail
          all_goals (try (exfalso; omega))
          have F : CellsAt _ w.heap.size (foundCells Stm.st0) := ((((((((((((((Z.out.other (c := w.heap.size + 1) (by omega) 3 (.int .i64 (-1))).other (c := w.heap.size + 1) (by omega) 8 (.int .i64 st.at_)).set 0 (by simp [foundCells]) (.int .i64 0)).set 1 (by simp [foundCells]) (.int .i64 0)).set 2 (by simp [foundCells]) (.int .i64 0)).set 3 (by simp [foundCells]) (.int .i64 0)).set 4 (by simp [foundCells]) (.int .i64 0)).set 5 (by simp [foundCells]) (.int .i64 0)).set 6 (by simp [foundCells]) (.int .i64 0)).set 7 (by simp [foundCells]) (.int .i64 0)).set 8 (by simp [foundCells]) (.int .i64 0)).set 9 (by simp [foundCells]) (.int .i64 0)).set 10 (by simp [foundCells]) (.int .i64 0)).set 11 (by simp [foundCells]) (.int .i64 0))
          have B := ((((((((((((((hbr.out.setCell (p := ⟨w.heap.size + 1, 3, none⟩) (by show w.heap.size ≤ w.heap.size + 1; omega) (.int .i64 (-1))).setCell (p := ⟨w.heap.size + 1, 8, none⟩) (by show w.heap.size ≤ w.heap.size + 1; omega) (.int .i64 st.at_)).setCell (p := ⟨w.heap.size, 0, none⟩) (Nat.le_refl _) (.int .i64 0)).setCell (p := ⟨w.heap.size, 1, none⟩) (Nat.le_refl _) (.int .i64 0)).setCell (p := ⟨w.heap.size, 2, none⟩) (Nat.le_refl _) (.int .i64 0)).setCell (p := ⟨w.heap.size, 3, none⟩) (Nat.le_refl _) (.int .i64 0)).setCell (p := ⟨w.heap.size, 4, none⟩) (Nat.le_refl _) (.int .i64 0)).setCell (p := ⟨w.heap.size, 5, none⟩) (Nat.le_refl _) (.int .i64 0)).setCell (p := ⟨w.heap.size, 6, none⟩) (Nat.le_refl _) (.int .i64 0)).setCell (p := ⟨w.heap.size, 7, none⟩) (Nat.le_refl _) (.int .i64 0)).setCell (p := ⟨w.heap.size, 8, none⟩) (Nat.le_refl _) (.int .i64 0)).setCell (p := ⟨w.heap.size, 9, none⟩) (Nat.le_refl _) (.int .i64 0)).setCell (p := ⟨w.heap.size, 10, none⟩) (Nat.le_refl _) (.int .i64 0)).setCell (p := ⟨w.heap.size, 11, none⟩) (Nat.le_refl _) (.int .i64 0))
          refine (fun (key : ∀ W, CellsAt W w.heap.size (foundCells Stm.st0) → Below w.heap.size w W → bodyPost _ _ _ _ _ W) => key _ F B) ?_
          intro W F B
          exact read_ret hr F rfl B rfl rfl rfl rfl
        · have hnx : Hid (Stm.runP (L s) (((L p).drop (k + 1)).map toPc) (Stm.setDig 1 v st.at_ { st with at_ := b1 }) = R) := run_drop_of hlt hq.out hst.out hrun.out
          clear hst hq hrun
          rw [show numV (b1, v, true) = .tuple #[.int .i64 v, .int .i64 b1] from rfl]
          go_wp2_with fail
          all_goals (try (exfalso; omega))
          go_roundw
          case rel => exact ⟨k + 1, Stm.setDig 1 v st.at_ { st with at_ := b1 }, by omega, by go_num, by go_num, by rw [Stm.at_setDig]; exact hle1, hnx, ((A.out.set 3 (by simp [foundCells]) (.int .i64 v)).set 8 (by simp [foundCells]) (.int .i64 st.at_)), ((Z.out.other (c := w.heap.size + 1) (by omega) 3 (.int .i64 v)).other (c := w.heap.size + 1) (by omega) 8 (.int .i64 st.at_)), ((hbr.out.setCell (p := ⟨w.heap.size + 1, 3, none⟩) (by show w.heap.size ≤ w.heap.size + 1; omega) (.int .i64 v)).setCell (p := ⟨w.heap.size + 1, 8, none⟩) (by show w.heap.size ≤ w.heap.size + 1; omega) (.int .i64 st.at_))⟩
          case measure => simp [intOf]; omega
      · have hv : (p[k].toNat : Int) = 99 := by rw [hc]; rfl
        obtain ⟨r, hr1⟩ := name_it (Stm.digs (L s) 2 false st.at_ 0)
        have hst := Lib.hid (step_dig (s := L s) (w := 2) (b := false) (f := 1) (st := st) hr1.out)
        have hle := digs_le (L s) 2 false st.at_ 0 (by rw [HLs.out]; exact hat) (by omega)
        rw [hr1.out, HLs.out] at hle
        have hq : Hid (toPc p[k] = .dig 2 false 1) := by rw [hc]; rfl
        clear hc
        go_wp2_with fail
        all_goals (try (exfalso; omega))
        refine (rnumber_any s st.at_ 2 false _ hat hs (by decide)).mono ?_; rintro e w3 ⟨rfl, rfl⟩
        rw [hr1.out]
        clear hr1
        have cc := A.out.cell 3 (by simp [foundCells])
        have gg := A.out.free 3
        have cd := A.out.cell 8 (by simp [foundCells])
        have gd := A.out.free 8
        simp only [foundCells, List.getElem_cons_zero, List.getElem_cons_succ] at cc cd
        obtain ⟨b1, v, ok⟩ := r
        dsimp only at hle hst
        obtain ⟨hle1, hle2⟩ := hle
        have hle3 : (b1 : Int) ≤ s.size := by omega
        cases ok
        · have hr : Hid (V = .tuple #[.agg (foundCells Stm.st0).toArray, .bool false, .int .i64 b1]) := by
            rw [← hV.out, ← run_drop_of hlt hq.out hst.out hrun.out]; rfl
          clear hst hq hrun
          rw [show numV (b1, v, false) = .tuple #[.int .i64 (-1), .int .i64 b1] from rfl]
          have z0 := Z.out.cell 0 (by simp [foundCells])
          have z1 := Z.out.cell 1 (by simp [foundCells])
          have z2 := Z.out.cell 2 (by simp [foundCells])
          have z3 := Z.out.cell 3 (by simp [foundCells])
          have z4 := Z.out.cell 4 (by simp [foundCells])
          have z5 := Z.out.cell 5 (by simp [foundCells])
          have z6 := Z.out.cell 6 (by simp [foundCells])
          have z7 := Z.out.cell 7 (by simp [foundCells])
          have z8 := Z.out.cell 8 (by simp [foundCells])
          have z9 := Z.out.cell 9 (by simp [foundCells])
          have z10 := Z.out.cell 10 (by simp [foundCells])
          have z11 := Z.out.cell 11 (by simp [foundCells])
          have y0 := Z.out.free 0
          have y1 := Z.out.free 1
          have y2 := Z.out.free 2
          have y3 := Z.out.free 3
          have y4 := Z.out.free 4
          have y5 := Z.out.free 5
          have y6 := Z.out.free 6
          have y7 := Z.out.free 7
          have y8 := Z.out.free 8
          have y9 := Z.out.free 9
          have y10 := Z.out.free 10
          have y11 := Z.out.free 11
          simp only [foundCells, Stm.st0, List.getElem_cons_zero, List.getElem_cons_succ] at z0 z1 z2 z3 z4 z5 z6 z7 z8 z9 z10 z11
          go_wp2_with fail
          all_goals (try (exfalso; omega))
          have F : CellsAt _ w.heap.size (foundCells Stm.st0) := ((((((((((((((Z.out.other (c := w.heap.size + 1) (by omega) 3 (.int .i64 (-1))).other (c := w.heap.size + 1) (by omega) 8 (.int .i64 st.at_)).set 0 (by simp [foundCells]) (.int .i64 0)).set 1 (by simp [foundCells]) (.int .i64 0)).set 2 (by simp [foundCells]) (.int .i64 0)).set 3 (by simp [foundCells]) (.int .i64 0)).set 4 (by simp [foundCells]) (.int .i64 0)).set 5 (by simp [foundCells]) (.int .i64 0)).set 6 (by simp [foundCells]) (.int .i64 0)).set 7 (by simp [foundCells]) (.int .i64 0)).set 8 (by simp [foundCells]) (.int .i64 0)).set 9 (by simp [foundCells]) (.int .i64 0)).set 10 (by simp [foundCells]) (.int .i64 0)).set 11 (by simp [foundCells]) (.int .i64 0))
          have B := ((((((((((((((hbr.out.setCell (p := ⟨w.heap.size + 1, 3, none⟩) (by show w.heap.size ≤ w.heap.size + 1; omega) (.int .i64 (-1))).setCell (p := ⟨w.heap.size + 1, 8, none⟩) (by show w.heap.size ≤ w.heap.size + 1; omega) (.int .i64 st.at_)).setCell (p := ⟨w.heap.size, 0, none⟩) (Nat.le_refl _) (.int .i64 0)).setCell (p := ⟨w.heap.size, 1, none⟩) (Nat.le_refl _) (.int .i64 0)).setCell (p := ⟨w.heap.size, 2, none⟩) (Nat.le_refl _) (.int .i64 0)).setCell (p := ⟨w.heap.size, 3, none⟩) (Nat.le_refl _) (.int .i64 0)).setCell (p := ⟨w.heap.size, 4, none⟩) (Nat.le_refl _) (.int .i64 0)).setCell (p := ⟨w.heap.size, 5, none⟩) (Nat.le_refl _) (.int .i64 0)).setCell (p := ⟨w.heap.size, 6, none⟩) (Nat.le_refl _) (.int .i64 0)).setCell (p := ⟨w.heap.size, 7, none⟩) (Nat.le_refl _) (.int .i64 0)).setCell (p := ⟨w.heap.size, 8, none⟩) (Nat.le_refl _) (.int .i64 0)).setCell (p := ⟨w.heap.size, 9, none⟩) (Nat.le_refl _) (.int .i64 0)).setCell (p := ⟨w.heap.size, 10, none⟩) (Nat.le_refl _) (.int .i64 0)).setCell (p := ⟨w.heap.size, 11, none⟩) (Nat.le_refl _) (.int .i64 0))
          refine (fun (key : ∀ W, CellsAt W w.heap.size (foundCells Stm.st0) → Below w.heap.size w W → bodyPost _ _ _ _ _ W) => key _ F B) ?_
          intro W F B
          exact read_ret hr F rfl B rfl rfl rfl rfl
        · have hnx : Hid (Stm.runP (L s) (((L p).drop (k + 1)).map toPc) (Stm.setDig 1 v st.at_ { st with at_ := b1 }) = R) := run_drop_of hlt hq.out hst.out hrun.out
          clear hst hq hrun
          rw [show numV (b1, v, true) = .tuple #[.int .i64 v, .int .i64 b1] from rfl]
          go_wp2_with fail
          all_goals (try (exfalso; omega))
          go_roundw
          case rel => exact ⟨k + 1, Stm.setDig 1 v st.at_ { st with at_ := b1 }, by omega, by go_num, by go_num, by rw [Stm.at_setDig]; exact hle1, hnx, ((A.out.set 3 (by simp [foundCells]) (.int .i64 v)).set 8 (by simp [foundCells]) (.int .i64 st.at_)), ((Z.out.other (c := w.heap.size + 1) (by omega) 3 (.int .i64 v)).other (c := w.heap.size + 1) (by omega) 8 (.int .i64 st.at_)), ((hbr.out.setCell (p := ⟨w.heap.size + 1, 3, none⟩) (by show w.heap.size ≤ w.heap.size + 1; omega) (.int .i64 v)).setCell (p := ⟨w.heap.size + 1, 8, none⟩) (by show w.heap.size ≤ w.heap.size + 1; omega) (.int .i64 st.at_))⟩
          case measure => simp [intOf]; omega
      · have hv : (p[k].toNat : Int) = 104 := by rw [hc]; rfl
        obtain ⟨r, hr1⟩ := name_it (Stm.digs (L s) 2 false st.at_ 0)
        have hst := Lib.hid (step_dig (s := L s) (w := 2) (b := false) (f := 2) (st := st) hr1.out)
        have hle := digs_le (L s) 2 false st.at_ 0 (by rw [HLs.out]; exact hat) (by omega)
        rw [hr1.out, HLs.out] at hle
        have hq : Hid (toPc p[k] = .dig 2 false 2) := by rw [hc]; rfl
        clear hc
        go_wp2_with fail
        all_goals (try (exfalso; omega))
        refine (rnumber_any s st.at_ 2 false _ hat hs (by decide)).mono ?_; rintro e w3 ⟨rfl, rfl⟩
        rw [hr1.out]
        clear hr1
        have cc := A.out.cell 4 (by simp [foundCells])
        have gg := A.out.free 4
        have cd := A.out.cell 9 (by simp [foundCells])
        have gd := A.out.free 9
        simp only [foundCells, List.getElem_cons_zero, List.getElem_cons_succ] at cc cd
        obtain ⟨b1, v, ok⟩ := r
        dsimp only at hle hst
        obtain ⟨hle1, hle2⟩ := hle
        have hle3 : (b1 : Int) ≤ s.size := by omega
        cases ok
        · have hr : Hid (V = .tuple #[.agg (foundCells Stm.st0).toArray, .bool false, .int .i64 b1]) := by
            rw [← hV.out, ← run_drop_of hlt hq.out hst.out hrun.out]; rfl
          clear hst hq hrun
          rw [show numV (b1, v, false) = .tuple #[.int .i64 (-1), .int .i64 b1] from rfl]
          have z0 := Z.out.cell 0 (by simp [foundCells])
          have z1 := Z.out.cell 1 (by simp [foundCells])
          have z2 := Z.out.cell 2 (by simp [foundCells])
          have z3 := Z.out.cell 3 (by simp [foundCells])
          have z4 := Z.out.cell 4 (by simp [foundCells])
          have z5 := Z.out.cell 5 (by simp [foundCells])
          have z6 := Z.out.cell 6 (by simp [foundCells])
          have z7 := Z.out.cell 7 (by simp [foundCells])
          have z8 := Z.out.cell 8 (by simp [foundCells])
          have z9 := Z.out.cell 9 (by simp [foundCells])
          have z10 := Z.out.cell 10 (by simp [foundCells])
          have z11 := Z.out.cell 11 (by simp [foundCells])
          have y0 := Z.out.free 0
          have y1 := Z.out.free 1
          have y2 := Z.out.free 2
          have y3 := Z.out.free 3
          have y4 := Z.out.free 4
          have y5 := Z.out.free 5
          have y6 := Z.out.free 6
          have y7 := Z.out.free 7
          have y8 := Z.out.free 8
          have y9 := Z.out.free 9
          have y10 := Z.out.free 10
          have y11 := Z.out.free 11
          simp only [foundCells, Stm.st0, List.getElem_cons_zero, List.getElem_cons_succ] at z0 z1 z2 z3 z4 z5 z6 z7 z8 z9 z10 z11
          go_wp2_with fail
          all_goals (try (exfalso; omega))
          have F : CellsAt _ w.heap.size (foundCells Stm.st0) := ((((((((((((((Z.out.other (c := w.heap.size + 1) (by omega) 4 (.int .i64 (-1))).other (c := w.heap.size + 1) (by omega) 9 (.int .i64 st.at_)).set 0 (by simp [foundCells]) (.int .i64 0)).set 1 (by simp [foundCells]) (.int .i64 0)).set 2 (by simp [foundCells]) (.int .i64 0)).set 3 (by simp [foundCells]) (.int .i64 0)).set 4 (by simp [foundCells]) (.int .i64 0)).set 5 (by simp [foundCells]) (.int .i64 0)).set 6 (by simp [foundCells]) (.int .i64 0)).set 7 (by simp [foundCells]) (.int .i64 0)).set 8 (by simp [foundCells]) (.int .i64 0)).set 9 (by simp [foundCells]) (.int .i64 0)).set 10 (by simp [foundCells]) (.int .i64 0)).set 11 (by simp [foundCells]) (.int .i64 0))
          have B := ((((((((((((((hbr.out.setCell (p := ⟨w.heap.size + 1, 4, none⟩) (by show w.heap.size ≤ w.heap.size + 1; omega) (.int .i64 (-1))).setCell (p := ⟨w.heap.size + 1, 9, none⟩) (by show w.heap.size ≤ w.heap.size + 1; omega) (.int .i64 st.at_)).setCell (p := ⟨w.heap.size, 0, none⟩) (Nat.le_refl _) (.int .i64 0)).setCell (p := ⟨w.heap.size, 1, none⟩) (Nat.le_refl _) (.int .i64 0)).setCell (p := ⟨w.heap.size, 2, none⟩) (Nat.le_refl _) (.int .i64 0)).setCell (p := ⟨w.heap.size, 3, none⟩) (Nat.le_refl _) (.int .i64 0)).setCell (p := ⟨w.heap.size, 4, none⟩) (Nat.le_refl _) (.int .i64 0)).setCell (p := ⟨w.heap.size, 5, none⟩) (Nat.le_refl _) (.int .i64 0)).setCell (p := ⟨w.heap.size, 6, none⟩) (Nat.le_refl _) (.int .i64 0)).setCell (p := ⟨w.heap.size, 7, none⟩) (Nat.le_refl _) (.int .i64 0)).setCell (p := ⟨w.heap.size, 8, none⟩) (Nat.le_refl _) (.int .i64 0)).setCell (p := ⟨w.heap.size, 9, none⟩) (Nat.le_refl _) (.int .i64 0)).setCell (p := ⟨w.heap.size, 10, none⟩) (Nat.le_refl _) (.int .i64 0)).setCell (p := ⟨w.heap.size, 11, none⟩) (Nat.le_refl _) (.int .i64 0))
          refine (fun (key : ∀ W, CellsAt W w.heap.size (foundCells Stm.st0) → Below w.heap.size w W → bodyPost _ _ _ _ _ W) => key _ F B) ?_
          intro W F B
          exact read_ret hr F rfl B rfl rfl rfl rfl
        · have hnx : Hid (Stm.runP (L s) (((L p).drop (k + 1)).map toPc) (Stm.setDig 2 v st.at_ { st with at_ := b1 }) = R) := run_drop_of hlt hq.out hst.out hrun.out
          clear hst hq hrun
          rw [show numV (b1, v, true) = .tuple #[.int .i64 v, .int .i64 b1] from rfl]
          go_wp2_with fail
          all_goals (try (exfalso; omega))
          go_roundw
          case rel => exact ⟨k + 1, Stm.setDig 2 v st.at_ { st with at_ := b1 }, by omega, by go_num, by go_num, by rw [Stm.at_setDig]; exact hle1, hnx, ((A.out.set 4 (by simp [foundCells]) (.int .i64 v)).set 9 (by simp [foundCells]) (.int .i64 st.at_)), ((Z.out.other (c := w.heap.size + 1) (by omega) 4 (.int .i64 v)).other (c := w.heap.size + 1) (by omega) 9 (.int .i64 st.at_)), ((hbr.out.setCell (p := ⟨w.heap.size + 1, 4, none⟩) (by show w.heap.size ≤ w.heap.size + 1; omega) (.int .i64 v)).setCell (p := ⟨w.heap.size + 1, 9, none⟩) (by show w.heap.size ≤ w.heap.size + 1; omega) (.int .i64 st.at_))⟩
          case measure => simp [intOf]; omega
      · have hv : (p[k].toNat : Int) = 105 := by rw [hc]; rfl
        obtain ⟨r, hr1⟩ := name_it (Stm.digs (L s) 2 false st.at_ 0)
        have hst := Lib.hid (step_dig (s := L s) (w := 2) (b := false) (f := 3) (st := st) hr1.out)
        have hle := digs_le (L s) 2 false st.at_ 0 (by rw [HLs.out]; exact hat) (by omega)
        rw [hr1.out, HLs.out] at hle
        have hq : Hid (toPc p[k] = .dig 2 false 3) := by rw [hc]; rfl
        clear hc
        go_wp2_with fail
        all_goals (try (exfalso; omega))
        refine (rnumber_any s st.at_ 2 false _ hat hs (by decide)).mono ?_; rintro e w3 ⟨rfl, rfl⟩
        rw [hr1.out]
        clear hr1
        have cc := A.out.cell 5 (by simp [foundCells])
        have gg := A.out.free 5
        have cd := A.out.cell 10 (by simp [foundCells])
        have gd := A.out.free 10
        simp only [foundCells, List.getElem_cons_zero, List.getElem_cons_succ] at cc cd
        obtain ⟨b1, v, ok⟩ := r
        dsimp only at hle hst
        obtain ⟨hle1, hle2⟩ := hle
        have hle3 : (b1 : Int) ≤ s.size := by omega
        cases ok
        · have hr : Hid (V = .tuple #[.agg (foundCells Stm.st0).toArray, .bool false, .int .i64 b1]) := by
            rw [← hV.out, ← run_drop_of hlt hq.out hst.out hrun.out]; rfl
          clear hst hq hrun
          rw [show numV (b1, v, false) = .tuple #[.int .i64 (-1), .int .i64 b1] from rfl]
          have z0 := Z.out.cell 0 (by simp [foundCells])
          have z1 := Z.out.cell 1 (by simp [foundCells])
          have z2 := Z.out.cell 2 (by simp [foundCells])
          have z3 := Z.out.cell 3 (by simp [foundCells])
          have z4 := Z.out.cell 4 (by simp [foundCells])
          have z5 := Z.out.cell 5 (by simp [foundCells])
          have z6 := Z.out.cell 6 (by simp [foundCells])
          have z7 := Z.out.cell 7 (by simp [foundCells])
          have z8 := Z.out.cell 8 (by simp [foundCells])
          have z9 := Z.out.cell 9 (by simp [foundCells])
          have z10 := Z.out.cell 10 (by simp [foundCells])
          have z11 := Z.out.cell 11 (by simp [foundCells])
          have y0 := Z.out.free 0
          have y1 := Z.out.free 1
          have y2 := Z.out.free 2
          have y3 := Z.out.free 3
          have y4 := Z.out.free 4
          have y5 := Z.out.free 5
          have y6 := Z.out.free 6
          have y7 := Z.out.free 7
          have y8 := Z.out.free 8
          have y9 := Z.out.free 9
          have y10 := Z.out.free 10
          have y11 := Z.out.free 11
          simp only [foundCells, Stm.st0, List.getElem_cons_zero, List.getElem_cons_succ] at z0 z1 z2 z3 z4 z5 z6 z7 z8 z9 z10 z11
          go_wp2_with fail
          all_goals (try (exfalso; omega))
          have F : CellsAt _ w.heap.size (foundCells Stm.st0) := ((((((((((((((Z.out.other (c := w.heap.size + 1) (by omega) 5 (.int .i64 (-1))).other (c := w.heap.size + 1) (by omega) 10 (.int .i64 st.at_)).set 0 (by simp [foundCells]) (.int .i64 0)).set 1 (by simp [foundCells]) (.int .i64 0)).set 2 (by simp [foundCells]) (.int .i64 0)).set 3 (by simp [foundCells]) (.int .i64 0)).set 4 (by simp [foundCells]) (.int .i64 0)).set 5 (by simp [foundCells]) (.int .i64 0)).set 6 (by simp [foundCells]) (.int .i64 0)).set 7 (by simp [foundCells]) (.int .i64 0)).set 8 (by simp [foundCells]) (.int .i64 0)).set 9 (by simp [foundCells]) (.int .i64 0)).set 10 (by simp [foundCells]) (.int .i64 0)).set 11 (by simp [foundCells]) (.int .i64 0))
          have B := ((((((((((((((hbr.out.setCell (p := ⟨w.heap.size + 1, 5, none⟩) (by show w.heap.size ≤ w.heap.size + 1; omega) (.int .i64 (-1))).setCell (p := ⟨w.heap.size + 1, 10, none⟩) (by show w.heap.size ≤ w.heap.size + 1; omega) (.int .i64 st.at_)).setCell (p := ⟨w.heap.size, 0, none⟩) (Nat.le_refl _) (.int .i64 0)).setCell (p := ⟨w.heap.size, 1, none⟩) (Nat.le_refl _) (.int .i64 0)).setCell (p := ⟨w.heap.size, 2, none⟩) (Nat.le_refl _) (.int .i64 0)).setCell (p := ⟨w.heap.size, 3, none⟩) (Nat.le_refl _) (.int .i64 0)).setCell (p := ⟨w.heap.size, 4, none⟩) (Nat.le_refl _) (.int .i64 0)).setCell (p := ⟨w.heap.size, 5, none⟩) (Nat.le_refl _) (.int .i64 0)).setCell (p := ⟨w.heap.size, 6, none⟩) (Nat.le_refl _) (.int .i64 0)).setCell (p := ⟨w.heap.size, 7, none⟩) (Nat.le_refl _) (.int .i64 0)).setCell (p := ⟨w.heap.size, 8, none⟩) (Nat.le_refl _) (.int .i64 0)).setCell (p := ⟨w.heap.size, 9, none⟩) (Nat.le_refl _) (.int .i64 0)).setCell (p := ⟨w.heap.size, 10, none⟩) (Nat.le_refl _) (.int .i64 0)).setCell (p := ⟨w.heap.size, 11, none⟩) (Nat.le_refl _) (.int .i64 0))
          refine (fun (key : ∀ W, CellsAt W w.heap.size (foundCells Stm.st0) → Below w.heap.size w W → bodyPost _ _ _ _ _ W) => key _ F B) ?_
          intro W F B
          exact read_ret hr F rfl B rfl rfl rfl rfl
        · have hnx : Hid (Stm.runP (L s) (((L p).drop (k + 1)).map toPc) (Stm.setDig 3 v st.at_ { st with at_ := b1 }) = R) := run_drop_of hlt hq.out hst.out hrun.out
          clear hst hq hrun
          rw [show numV (b1, v, true) = .tuple #[.int .i64 v, .int .i64 b1] from rfl]
          go_wp2_with fail
          all_goals (try (exfalso; omega))
          go_roundw
          case rel => exact ⟨k + 1, Stm.setDig 3 v st.at_ { st with at_ := b1 }, by omega, by go_num, by go_num, by rw [Stm.at_setDig]; exact hle1, hnx, ((A.out.set 5 (by simp [foundCells]) (.int .i64 v)).set 10 (by simp [foundCells]) (.int .i64 st.at_)), ((Z.out.other (c := w.heap.size + 1) (by omega) 5 (.int .i64 v)).other (c := w.heap.size + 1) (by omega) 10 (.int .i64 st.at_)), ((hbr.out.setCell (p := ⟨w.heap.size + 1, 5, none⟩) (by show w.heap.size ≤ w.heap.size + 1; omega) (.int .i64 v)).setCell (p := ⟨w.heap.size + 1, 10, none⟩) (by show w.heap.size ≤ w.heap.size + 1; omega) (.int .i64 st.at_))⟩
          case measure => simp [intOf]; omega
      · have hv : (p[k].toNat : Int) = 115 := by rw [hc]; rfl
        obtain ⟨r, hr1⟩ := name_it (Stm.digs (L s) 2 false st.at_ 0)
        have hst := Lib.hid (step_dig (s := L s) (w := 2) (b := false) (f := 4) (st := st) hr1.out)
        have hle := digs_le (L s) 2 false st.at_ 0 (by rw [HLs.out]; exact hat) (by omega)
        rw [hr1.out, HLs.out] at hle
        have hq : Hid (toPc p[k] = .dig 2 false 4) := by rw [hc]; rfl
        clear hc
        go_wp2_with fail
        all_goals (try (exfalso; omega))
        refine (rnumber_any s st.at_ 2 false _ hat hs (by decide)).mono ?_; rintro e w3 ⟨rfl, rfl⟩
        rw [hr1.out]
        clear hr1
        have cc := A.out.cell 6 (by simp [foundCells])
        have gg := A.out.free 6
        have cd := A.out.cell 11 (by simp [foundCells])
        have gd := A.out.free 11
        simp only [foundCells, List.getElem_cons_zero, List.getElem_cons_succ] at cc cd
        obtain ⟨b1, v, ok⟩ := r
        dsimp only at hle hst
        obtain ⟨hle1, hle2⟩ := hle
        have hle3 : (b1 : Int) ≤ s.size := by omega
        cases ok
        · have hr : Hid (V = .tuple #[.agg (foundCells Stm.st0).toArray, .bool false, .int .i64 b1]) := by
            rw [← hV.out, ← run_drop_of hlt hq.out hst.out hrun.out]; rfl
          clear hst hq hrun
          rw [show numV (b1, v, false) = .tuple #[.int .i64 (-1), .int .i64 b1] from rfl]
          have z0 := Z.out.cell 0 (by simp [foundCells])
          have z1 := Z.out.cell 1 (by simp [foundCells])
          have z2 := Z.out.cell 2 (by simp [foundCells])
          have z3 := Z.out.cell 3 (by simp [foundCells])
          have z4 := Z.out.cell 4 (by simp [foundCells])
          have z5 := Z.out.cell 5 (by simp [foundCells])
          have z6 := Z.out.cell 6 (by simp [foundCells])
          have z7 := Z.out.cell 7 (by simp [foundCells])
          have z8 := Z.out.cell 8 (by simp [foundCells])
          have z9 := Z.out.cell 9 (by simp [foundCells])
          have z10 := Z.out.cell 10 (by simp [foundCells])
          have z11 := Z.out.cell 11 (by simp [foundCells])
          have y0 := Z.out.free 0
          have y1 := Z.out.free 1
          have y2 := Z.out.free 2
          have y3 := Z.out.free 3
          have y4 := Z.out.free 4
          have y5 := Z.out.free 5
          have y6 := Z.out.free 6
          have y7 := Z.out.free 7
          have y8 := Z.out.free 8
          have y9 := Z.out.free 9
          have y10 := Z.out.free 10
          have y11 := Z.out.free 11
          simp only [foundCells, Stm.st0, List.getElem_cons_zero, List.getElem_cons_succ] at z0 z1 z2 z3 z4 z5 z6 z7 z8 z9 z10 z11
          go_wp2_with fail
          all_goals (try (exfalso; omega))
          have F : CellsAt _ w.heap.size (foundCells Stm.st0) := ((((((((((((((Z.out.other (c := w.heap.size + 1) (by omega) 6 (.int .i64 (-1))).other (c := w.heap.size + 1) (by omega) 11 (.int .i64 st.at_)).set 0 (by simp [foundCells]) (.int .i64 0)).set 1 (by simp [foundCells]) (.int .i64 0)).set 2 (by simp [foundCells]) (.int .i64 0)).set 3 (by simp [foundCells]) (.int .i64 0)).set 4 (by simp [foundCells]) (.int .i64 0)).set 5 (by simp [foundCells]) (.int .i64 0)).set 6 (by simp [foundCells]) (.int .i64 0)).set 7 (by simp [foundCells]) (.int .i64 0)).set 8 (by simp [foundCells]) (.int .i64 0)).set 9 (by simp [foundCells]) (.int .i64 0)).set 10 (by simp [foundCells]) (.int .i64 0)).set 11 (by simp [foundCells]) (.int .i64 0))
          have B := ((((((((((((((hbr.out.setCell (p := ⟨w.heap.size + 1, 6, none⟩) (by show w.heap.size ≤ w.heap.size + 1; omega) (.int .i64 (-1))).setCell (p := ⟨w.heap.size + 1, 11, none⟩) (by show w.heap.size ≤ w.heap.size + 1; omega) (.int .i64 st.at_)).setCell (p := ⟨w.heap.size, 0, none⟩) (Nat.le_refl _) (.int .i64 0)).setCell (p := ⟨w.heap.size, 1, none⟩) (Nat.le_refl _) (.int .i64 0)).setCell (p := ⟨w.heap.size, 2, none⟩) (Nat.le_refl _) (.int .i64 0)).setCell (p := ⟨w.heap.size, 3, none⟩) (Nat.le_refl _) (.int .i64 0)).setCell (p := ⟨w.heap.size, 4, none⟩) (Nat.le_refl _) (.int .i64 0)).setCell (p := ⟨w.heap.size, 5, none⟩) (Nat.le_refl _) (.int .i64 0)).setCell (p := ⟨w.heap.size, 6, none⟩) (Nat.le_refl _) (.int .i64 0)).setCell (p := ⟨w.heap.size, 7, none⟩) (Nat.le_refl _) (.int .i64 0)).setCell (p := ⟨w.heap.size, 8, none⟩) (Nat.le_refl _) (.int .i64 0)).setCell (p := ⟨w.heap.size, 9, none⟩) (Nat.le_refl _) (.int .i64 0)).setCell (p := ⟨w.heap.size, 10, none⟩) (Nat.le_refl _) (.int .i64 0)).setCell (p := ⟨w.heap.size, 11, none⟩) (Nat.le_refl _) (.int .i64 0))
          refine (fun (key : ∀ W, CellsAt W w.heap.size (foundCells Stm.st0) → Below w.heap.size w W → bodyPost _ _ _ _ _ W) => key _ F B) ?_
          intro W F B
          exact read_ret hr F rfl B rfl rfl rfl rfl
        · have hnx : Hid (Stm.runP (L s) (((L p).drop (k + 1)).map toPc) (Stm.setDig 4 v st.at_ { st with at_ := b1 }) = R) := run_drop_of hlt hq.out hst.out hrun.out
          clear hst hq hrun
          rw [show numV (b1, v, true) = .tuple #[.int .i64 v, .int .i64 b1] from rfl]
          go_wp2_with fail
          all_goals (try (exfalso; omega))
          go_roundw
          case rel => exact ⟨k + 1, Stm.setDig 4 v st.at_ { st with at_ := b1 }, by omega, by go_num, by go_num, by rw [Stm.at_setDig]; exact hle1, hnx, ((A.out.set 6 (by simp [foundCells]) (.int .i64 v)).set 11 (by simp [foundCells]) (.int .i64 st.at_)), ((Z.out.other (c := w.heap.size + 1) (by omega) 6 (.int .i64 v)).other (c := w.heap.size + 1) (by omega) 11 (.int .i64 st.at_)), ((hbr.out.setCell (p := ⟨w.heap.size + 1, 6, none⟩) (by show w.heap.size ≤ w.heap.size + 1; omega) (.int .i64 v)).setCell (p := ⟨w.heap.size + 1, 11, none⟩) (by show w.heap.size ≤ w.heap.size + 1; omega) (.int .i64 st.at_))⟩
          case measure => simp [intOf]; omega
      · obtain ⟨q0, q1, q2, q3, q4, q5, q6, q7, q8, q9⟩ := hc
        have v0 : ((p[k].toNat : Int) == 119) = false := byte_ne q0
        have v1 : ((p[k].toNat : Int) == 108) = false := byte_ne q1
        have v2 : ((p[k].toNat : Int) == 109) = false := byte_ne q2
        have v3 : ((p[k].toNat : Int) == 100) = false := byte_ne q3
        have v4 : ((p[k].toNat : Int) == 101) = false := byte_ne q4
        have v5 : ((p[k].toNat : Int) == 121) = false := byte_ne q5
        have v6 : ((p[k].toNat : Int) == 99) = false := byte_ne q6
        have v7 : ((p[k].toNat : Int) == 104) = false := byte_ne q7
        have v8 : ((p[k].toNat : Int) == 105) = false := byte_ne q8
        have v9 : ((p[k].toNat : Int) == 115) = false := byte_ne q9
        have hq : Hid (toPc p[k] = .lit p[k]) := by unfold Hid toPc; simp [q0, q1, q2, q3, q4, q5, q6, q7, q8, q9]
        clear q0 q1 q2 q3 q4 q5 q6 q7 q8 q9
        obtain ⟨r, hr1⟩ := name_it (decide ((L s)[st.at_]? = some p[k]))
        have hst := Lib.hid (step_lit (s := L s) (c := p[k]) (st := st))
        rw [hr1.out] at hst
        have hex := Lib.hid (extract_one p k hlt)
        have hpf := Lib.hid (lit_pref (L s) st.at_ p[k])
        rw [hr1.out] at hpf
        have hlen : r = true → Hid (st.at_ + 1 ≤ s.size) := by
          intro h
          rw [← hr1.out, decide_eq_true_eq] at h
          have := (List.getElem?_eq_some_iff.1 h).1
          rw [HLs.out] at this
          exact this
        have Hlen := Lib.hid hlen
        clear hlen hr1
        go_wp2_with fail
        all_goals (try (exfalso; omega))
        rw [hex.out]
        refine (rbegins_b s [p[k]] st.at_ _ hat hs (by simp)).mono ?_; rintro e w3 ⟨rfl, rfl⟩
        rw [hpf.out]
        clear hpf hex
        cases r
        · have hr : Hid (V = .tuple #[.agg (foundCells Stm.st0).toArray, .bool false, .int .i64 st.at_]) := by
            rw [← hV.out, ← run_drop_of hlt hq.out hst.out hrun.out]; rfl
          clear hst hq hrun
          have z0 := Z.out.cell 0 (by simp [foundCells])
          have z1 := Z.out.cell 1 (by simp [foundCells])
          have z2 := Z.out.cell 2 (by simp [foundCells])
          have z3 := Z.out.cell 3 (by simp [foundCells])
          have z4 := Z.out.cell 4 (by simp [foundCells])
          have z5 := Z.out.cell 5 (by simp [foundCells])
          have z6 := Z.out.cell 6 (by simp [foundCells])
          have z7 := Z.out.cell 7 (by simp [foundCells])
          have z8 := Z.out.cell 8 (by simp [foundCells])
          have z9 := Z.out.cell 9 (by simp [foundCells])
          have z10 := Z.out.cell 10 (by simp [foundCells])
          have z11 := Z.out.cell 11 (by simp [foundCells])
          have y0 := Z.out.free 0
          have y1 := Z.out.free 1
          have y2 := Z.out.free 2
          have y3 := Z.out.free 3
          have y4 := Z.out.free 4
          have y5 := Z.out.free 5
          have y6 := Z.out.free 6
          have y7 := Z.out.free 7
          have y8 := Z.out.free 8
          have y9 := Z.out.free 9
          have y10 := Z.out.free 10
          have y11 := Z.out.free 11
          simp only [foundCells, Stm.st0, List.getElem_cons_zero, List.getElem_cons_succ] at z0 z1 z2 z3 z4 z5 z6 z7 z8 z9 z10 z11
          go_wp2_with fail
          all_goals (try (exfalso; omega))
          have F : CellsAt _ w.heap.size (foundCells Stm.st0) := ((((((((((((Z.out.set 0 (by simp [foundCells]) (.int .i64 0)).set 1 (by simp [foundCells]) (.int .i64 0)).set 2 (by simp [foundCells]) (.int .i64 0)).set 3 (by simp [foundCells]) (.int .i64 0)).set 4 (by simp [foundCells]) (.int .i64 0)).set 5 (by simp [foundCells]) (.int .i64 0)).set 6 (by simp [foundCells]) (.int .i64 0)).set 7 (by simp [foundCells]) (.int .i64 0)).set 8 (by simp [foundCells]) (.int .i64 0)).set 9 (by simp [foundCells]) (.int .i64 0)).set 10 (by simp [foundCells]) (.int .i64 0)).set 11 (by simp [foundCells]) (.int .i64 0))
          have B := ((((((((((((hbr.out.setCell (p := ⟨w.heap.size, 0, none⟩) (Nat.le_refl _) (.int .i64 0)).setCell (p := ⟨w.heap.size, 1, none⟩) (Nat.le_refl _) (.int .i64 0)).setCell (p := ⟨w.heap.size, 2, none⟩) (Nat.le_refl _) (.int .i64 0)).setCell (p := ⟨w.heap.size, 3, none⟩) (Nat.le_refl _) (.int .i64 0)).setCell (p := ⟨w.heap.size, 4, none⟩) (Nat.le_refl _) (.int .i64 0)).setCell (p := ⟨w.heap.size, 5, none⟩) (Nat.le_refl _) (.int .i64 0)).setCell (p := ⟨w.heap.size, 6, none⟩) (Nat.le_refl _) (.int .i64 0)).setCell (p := ⟨w.heap.size, 7, none⟩) (Nat.le_refl _) (.int .i64 0)).setCell (p := ⟨w.heap.size, 8, none⟩) (Nat.le_refl _) (.int .i64 0)).setCell (p := ⟨w.heap.size, 9, none⟩) (Nat.le_refl _) (.int .i64 0)).setCell (p := ⟨w.heap.size, 10, none⟩) (Nat.le_refl _) (.int .i64 0)).setCell (p := ⟨w.heap.size, 11, none⟩) (Nat.le_refl _) (.int .i64 0))
          refine (fun (key : ∀ W, CellsAt W w.heap.size (foundCells Stm.st0) → Below w.heap.size w W → bodyPost _ _ _ _ _ W) => key _ F B) ?_
          intro W F B
          exact read_ret hr F rfl B rfl rfl rfl rfl
        · have hnx : Hid (Stm.runP (L s) (((L p).drop (k + 1)).map toPc) { st with at_ := st.at_ + 1 } = R) := run_drop_of hlt hq.out hst.out hrun.out
          have hl2 := (Hlen.out rfl).out
          clear hst hq hrun
          go_wp2_with fail
          all_goals (try (exfalso; omega))
          go_roundw
          case rel => exact ⟨k + 1, { st with at_ := st.at_ + 1 }, by omega, by go_num, by go_num, hl2, hnx, A.out, Z.out, hbr.out⟩
          case measure => simp [intOf]; omega
    · obtain rfl : k = p.size := by omega
      have hr : Hid (V = .tuple #[.agg (foundCells st).toArray, .bool ((st.at_ : Int) == (s.size : Int)), .int .i64 st.at_]) := by
        have := hrun.out
        rw [L_drop_all] at this
        rw [← hV.out, ← this]; rfl
      clear hrun
      obtain ⟨b, hb⟩ := name_it ((st.at_ : Int) == (s.size : Int))
      rw [hb.out] at hr
      have hb' : ((st.at_ : Int) == (s.size : Int)) = b := hb.out
      have c0 := A.out.cell 0 (by simp [foundCells])
      have c1 := A.out.cell 1 (by simp [foundCells])
      have c2 := A.out.cell 2 (by simp [foundCells])
      have c3 := A.out.cell 3 (by simp [foundCells])
      have c4 := A.out.cell 4 (by simp [foundCells])
      have c5 := A.out.cell 5 (by simp [foundCells])
      have c6 := A.out.cell 6 (by simp [foundCells])
      have c7 := A.out.cell 7 (by simp [foundCells])
      have c8 := A.out.cell 8 (by simp [foundCells])
      have c9 := A.out.cell 9 (by simp [foundCells])
      have c10 := A.out.cell 10 (by simp [foundCells])
      have c11 := A.out.cell 11 (by simp [foundCells])
      simp only [foundCells, List.getElem_cons_zero, List.getElem_cons_succ] at c0 c1 c2 c3 c4 c5 c6 c7 c8 c9 c10 c11
      have z0 := Z.out.cell 0 (by simp [foundCells])
      have z1 := Z.out.cell 1 (by simp [foundCells])
      have z2 := Z.out.cell 2 (by simp [foundCells])
      have z3 := Z.out.cell 3 (by simp [foundCells])
      have z4 := Z.out.cell 4 (by simp [foundCells])
      have z5 := Z.out.cell 5 (by simp [foundCells])
      have z6 := Z.out.cell 6 (by simp [foundCells])
      have z7 := Z.out.cell 7 (by simp [foundCells])
      have z8 := Z.out.cell 8 (by simp [foundCells])
      have z9 := Z.out.cell 9 (by simp [foundCells])
      have z10 := Z.out.cell 10 (by simp [foundCells])
      have z11 := Z.out.cell 11 (by simp [foundCells])
      have y0 := Z.out.free 0
      have y1 := Z.out.free 1
      have y2 := Z.out.free 2
      have y3 := Z.out.free 3
      have y4 := Z.out.free 4
      have y5 := Z.out.free 5
      have y6 := Z.out.free 6
      have y7 := Z.out.free 7
      have y8 := Z.out.free 8
      have y9 := Z.out.free 9
      have y10 := Z.out.free 10
      have y11 := Z.out.free 11
      simp only [foundCells, Stm.st0, List.getElem_cons_zero, List.getElem_cons_succ] at z0 z1 z2 z3 z4 z5 z6 z7 z8 z9 z10 z11
      go_wp2_with fail
      all_goals (try (exfalso; omega))
      have F : CellsAt _ w.heap.size (foundCells st) := ((((((((((((Z.out.set 0 (by simp [foundCells]) (.int .i64 st.wd)).set 1 (by simp [foundCells]) (.int .i64 st.mo)).set 2 (by simp [foundCells]) (.int .i64 st.dy)).set 3 (by simp [foundCells]) (.int .i64 st.yr)).set 4 (by simp [foundCells]) (.int .i64 st.hh)).set 5 (by simp [foundCells]) (.int .i64 st.mi)).set 6 (by simp [foundCells]) (.int .i64 st.ss)).set 7 (by simp [foundCells]) (.int .i64 st.dyAt)).set 8 (by simp [foundCells]) (.int .i64 st.yrAt)).set 9 (by simp [foundCells]) (.int .i64 st.hhAt)).set 10 (by simp [foundCells]) (.int .i64 st.miAt)).set 11 (by simp [foundCells]) (.int .i64 st.ssAt))
      have B := ((((((((((((hbr.out.setCell (p := ⟨w.heap.size, 0, none⟩) (Nat.le_refl _) (.int .i64 st.wd)).setCell (p := ⟨w.heap.size, 1, none⟩) (Nat.le_refl _) (.int .i64 st.mo)).setCell (p := ⟨w.heap.size, 2, none⟩) (Nat.le_refl _) (.int .i64 st.dy)).setCell (p := ⟨w.heap.size, 3, none⟩) (Nat.le_refl _) (.int .i64 st.yr)).setCell (p := ⟨w.heap.size, 4, none⟩) (Nat.le_refl _) (.int .i64 st.hh)).setCell (p := ⟨w.heap.size, 5, none⟩) (Nat.le_refl _) (.int .i64 st.mi)).setCell (p := ⟨w.heap.size, 6, none⟩) (Nat.le_refl _) (.int .i64 st.ss)).setCell (p := ⟨w.heap.size, 7, none⟩) (Nat.le_refl _) (.int .i64 st.dyAt)).setCell (p := ⟨w.heap.size, 8, none⟩) (Nat.le_refl _) (.int .i64 st.yrAt)).setCell (p := ⟨w.heap.size, 9, none⟩) (Nat.le_refl _) (.int .i64 st.hhAt)).setCell (p := ⟨w.heap.size, 10, none⟩) (Nat.le_refl _) (.int .i64 st.miAt)).setCell (p := ⟨w.heap.size, 11, none⟩) (Nat.le_refl _) (.int .i64 st.ssAt))
      refine (fun (key : ∀ W, CellsAt W w.heap.size (foundCells st) → Below w.heap.size w W → bodyPost _ _ _ _ _ W) => key _ F B) ?_
      intro W F B
      exact read_ret hr F rfl B rfl rfl rfl rfl
end Go.Proofs.YtkenianfpfamcaaGreatDoor
namespace Go.Proofs.YtkenianfpfamcaaGreatDoor
open Go Go.RowKit
set_option maxHeartbeats 2000000

theorem t100 (n : Int) : (n.tmod 100 + 100) % 100 = n % 100 ∧ -100 < n.tmod 100 ∧ n.tmod 100 < 100 := by
  have h := Int.tmod_def n 100
  have k : n.tdiv 100 = if 0 ≤ n then n / 100 else -((-n) / 100) := by
    split
    · exact Int.tdiv_eq_ediv_of_nonneg (by omega)
    · have := Int.neg_tdiv (a := -n) (b := 100)
      rw [Int.neg_neg] at this
      rw [this, Int.tdiv_eq_ediv_of_nonneg (by omega)]
  split at k <;> omega
def nowY (now : Int) : Int := Cal.yOf (splitN now)

set_option maxRecDepth 100000 in
theorem rnear_any (c now : Int) (w : World) (hn : isMom now = true) (c0 : 0 ≤ c) (c1 : c ≤ 99) :
    Calls Tryz.prog 152 #[.int .i64 c, .int .i64 now] w fun e w' => e = .returned (.int .i64 (Stm.nearY c (nowY now - 49))) ∧ Below w.heap.size w w' := by
  obtain ⟨y, mo, d, h, mi, s, wd, HD, HW, HE, ⟨y0, y1⟩, -, -, -, -, -, -⟩ := date_of hn
  have hyn : nowY now = y := by
    have := HD.out
    unfold splitD dateV at this
    rw [if_pos hn] at this
    simp at this
    exact this.1
  rw [hyn]
  have hnb := Stm.nearY_bd c (y - 49)
  obtain ⟨T, hT⟩ := name_it (Stm.nearY c (y - 49))
  rw [hT.out] at hnb ⊢
  obtain ⟨t1, t2, t3⟩ := hnb
  have HT := Lib.hid t3
  clear t3 hyn hT
  have hc : c % 100 = c := by omega
  rw [hc] at HT
  clear hc
  go_enter Tryz.func152, Tryz.ntmps152
  go_wp2_with fail
  refine (rsplit_any _ _).mono ?_; rintro e w1 ⟨rfl, hb1⟩
  rw [HD.out, HE.out]
  unfold dateV
  have A0 := Lib.hid (CellsAt.first w1 [.int .i64 y, .int .i64 mo, .int .i64 d, .int .i64 h, .int .i64 mi, .int .i64 s, .int .i64 wd] 157)
  have B0 := hb1.alloc hb1.size (.cells #[.int .i64 y, .int .i64 mo, .int .i64 d, .int .i64 h, .int .i64 mi, .int .i64 s, .int .i64 wd] 157)
  go_wp2_with fail
  all_goals (try (exfalso; omega))
  generalize w1.alloc _ = w2 at A0 B0 ⊢
  have e0 := A0.out.cell 0 (by simp)
  simp only [List.getElem_cons_zero] at e0
  go_loop [7] (fun i => ∃ z : Int, y - 49 ≤ z ∧ z ≤ T ∧ i = .int .i64 z) (fun i => (20000 - intOf i).toNat)
  case atStart => exact ⟨y - 49, by omega, by omega, rfl⟩
  case round =>
    obtain ⟨z, z1, z2, rfl⟩ := hrel
    obtain ⟨u1, u2, u3⟩ := t100 z
    have hmod : Hid ((z.tmod 100 + 100) % 100 = z % 100) := u1
    clear u1
    by_cases hz : z = T
    · subst hz
      have hq : ((z.tmod 100 + 100) % 100 == c) = true := by rw [hmod.out, HT.out]; simp
      go_wp2_with fail
      all_goals (try (exfalso; omega))
      go_ret
      exact ⟨rfl, B0⟩
    · have hq : ((z.tmod 100 + 100) % 100 == c) = false := by
        rw [hmod.out]; simp only [beq_eq_false_iff_ne, ne_eq]
        intro e; have := HT.out; omega
      go_wp2_with fail
      all_goals (try (exfalso; omega))
      go_round
      case rel => exact ⟨z + 1, by omega, by omega, rfl⟩
      case measure => simp [intOf]; omega
end Go.Proofs.YtkenianfpfamcaaGreatDoor
