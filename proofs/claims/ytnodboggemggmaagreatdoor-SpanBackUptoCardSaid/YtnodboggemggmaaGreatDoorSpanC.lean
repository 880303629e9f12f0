/- Contract of the reference's span: one element of a range header. -/
import Derived.Test.YtnodboggemggmaaGreatDoorSpanB
namespace Go.Proofs.YtnodboggemggmaaGreatDoor
open Go Go.RowKit
set_option maxHeartbeats 2000000

set_option maxRecDepth 100000 in
theorem one_any (s : ByteArray) (size : Int) (w : World) (hs : s.size ≤ 4000000000) (z0 : 0 ≤ size) (z1 : size ≤ 9223372036854775807) :
    Calls Tryz.prog 18 #[.string s, .int .i64 size] w fun e w' => e = .returned (elemV (elemO (L s) size)) ∧ Below w.heap.size w w' := by
  have s1 : (0 : Int) ≤ 1 := by omega
  have s2 : (0 : Int) ≤ 2 := by omega
  have s3 : (0 : Int) ≤ 3 := by omega
  obtain ⟨V, hV⟩ := name_it (elemV (elemO (L s) size))
  rw [hV.out]
  have hLs := L_length s
  obtain ⟨R, hR⟩ := name_it (idx 45 (L s))
  go_enter Tryz.func18, Tryz.ntmps18
  go_wp2_with fail
  all_goals (try (exfalso; omega))
  go_loop [7, 8] (fun a i => ∃ (k : Nat) (x : Int), k ≤ s.size ∧ i = .int .i64 k ∧ a = .int .i64 x ∧ -1 ≤ x ∧ (x = -1 → Hid ((idx 45 ((L s).drop k)).map (· + k) = R)) ∧ (0 ≤ x → Hid (R = some x.toNat))) (fun _ i => s.size - (intOf i).toNat)
  case atStart => exact ⟨0, -1, Nat.zero_le _, rfl, rfl, by omega, fun _ => by unfold Hid; rw [← hR.out]; simp, fun h => by omega⟩
  case round =>
    obtain ⟨k, x, hk, rfl, rfl, hx0, hx1, hx2⟩ := hrel
    by_cases hx : x = -1
    · have hr := hx1 hx
      clear hx1 hx2 hx0
      subst hx
      by_cases hlt : k < s.size
      · obtain ⟨c, hc⟩ := name_it s[k]
        have hdr : Hid ((L s).drop k = c :: (L s).drop (k + 1)) := by rw [← hc.out]; exact L_drop hlt
        have hck := hc.out
        have hstep := hr.out
        rw [hdr.out, idx_cons] at hstep
        by_cases hq : c = 45
        · have hq1 : (c.toNat : Int) = 45 := by subst hq; rfl
          have hqb : ((c.toNat : Int) == 45) = true := by simp [hq1]
          have hres : Hid (R = some k) := by
            rw [if_pos (by subst hq; rfl)] at hstep
            unfold Hid; rw [← hstep]; simp
          have HQ := Lib.hid hq; have HQ1 := Lib.hid hq1; clear hq hq1 hstep
          go_wp2_with fail
          all_goals (try (exfalso; omega))
          go_round
          case rel => exact ⟨k + 1, k, by omega, by go_num, rfl, by omega, fun h => by omega, fun _ => by simpa using hres⟩
          case measure => simp [intOf]; omega
        · have hq1 : ¬ (c.toNat : Int) = 45 := by
            intro h; apply hq; apply UInt8.toNat_inj.1; show c.toNat = 45; omega
          have hqb : ((c.toNat : Int) == 45) = false := by simp [hq1]
          have hres : Hid ((idx 45 ((L s).drop (k + 1))).map (· + (k + 1)) = R) := by
            rw [if_neg (by simpa using hq)] at hstep
            unfold Hid; rw [← hstep, Option.map_map]; congr 1; funext y; simp; omega
          have HQ := Lib.hid hq; have HQ1 := Lib.hid hq1; clear hq hq1 hstep
          go_wp2_with fail
          all_goals (try (exfalso; omega))
          go_round
          case rel => exact ⟨k + 1, -1, by omega, by go_num, rfl, by omega, fun _ => hres, fun h => by omega⟩
          case measure => simp [intOf]; omega
      · have hno : Hid (R = none) := by
          have := hr.out
          rw [List.drop_of_length_le (by rw [hLs]; omega)] at this
          unfold Hid; rw [← this]; rfl
        have hw : Hid (V = elemV none) := by
          have h1 := hR.out
          rw [hno.out] at h1
          unfold Hid; rw [← hV.out]; unfold elemO; rw [h1]
        clear hr
        go_wp2_with fail
        all_goals (try (exfalso; omega))
        refine bodyPost_ret (v := .tuple #[.agg #[.int .i64 (0), .int .i64 (0)], .bool false, .bool false]) ?_ rfl ⟨by rw [hw.out]; rfl, ?_⟩
        · simp [results, Tryz.results18, go_sem] <;> omega
        · first | exact (Below.refl _ _).alloc (Nat.le_refl _) _ | exact ((((Below.refl _ _).alloc (Nat.le_refl _) _).setCell (p := ⟨_, 0, none⟩) (Nat.le_refl _) _).setCell (p := ⟨_, 1, none⟩) (Nat.le_refl _) _)
    · have hr := hx2 (by omega)
      obtain ⟨i, rfl⟩ : ∃ i : Nat, x = i := ⟨x.toNat, by omega⟩
      rw [Int.toNat_natCast] at hr
      have hidx : idx 45 (L s) = some i := by rw [hR.out]; exact hr.out
      have hil := idx_lt hidx
      rw [hLs] at hil
      clear hx1 hx2 hx0 hx
      obtain ⟨a, ha⟩ := name_it ((L s).take i)
      obtain ⟨b, hb⟩ := name_it ((L s).drop (i + 1))
      have hal : a.length ≤ s.size := by rw [← ha.out, List.length_take]; omega
      have hbl : b.length ≤ s.size := by rw [← hb.out, List.length_drop]; omega
      have hxa : Hid (s.extract 0 i = bs a) := by unfold Hid; rw [extract_head, ha.out]
      have hxb : Hid (s.extract (i + 1) s.size = bs b) := by unfold Hid; rw [extract_tail, hb.out]
      have haz : a = [] ↔ i = 0 := by rw [← ha.out, ← List.length_eq_zero_iff, List.length_take]; omega
      have hbz : b = [] ↔ s.size ≤ i + 1 := by rw [← hb.out, ← List.length_eq_zero_iff, List.length_drop]; omega
      have hv : Hid (V = elemV (if a = [] then (if numB b = true then some ((if size - numN b < 0 then 0 else size - numN b), size, decide (0 < numN b ∧ 0 < size)) else none)
        else if numB a = false then none
        else if b = [] then some (numN a, size, decide (numN a < size))
        else if numB b = true ∧ numN a ≤ numN b then some (numN a, (if numN b < size then numN b + 1 else size), decide (numN a < size)) else none)) := by
        unfold Hid; rw [← hV.out]; unfold elemO; rw [hidx]; simp only [ha.out, hb.out]
      obtain ⟨na, hna⟩ := name_it (numN a)
      obtain ⟨nb, hnb⟩ := name_it (numN b)
      obtain ⟨fa, hfa⟩ := name_it (numB a)
      obtain ⟨fb, hfb⟩ := name_it (numB b)
      have ba := numN_bd a
      have bb := numN_bd b
      rw [hna.out] at ba hv
      rw [hnb.out] at bb hv
      rw [hfa.out, hfb.out] at hv
      have hfa0 : a = [] → fa = false := fun h => by rw [← hfa.out, h]; exact numB_nil
      have hfb0 : b = [] → fb = false := fun h => by rw [← hfb.out, h]; exact numB_nil
      clear ha hb hidx hV hR hr
      have hcases : (a = [] ∧ fa = false ∧ fb = true) ∨ (a = [] ∧ fa = false ∧ fb = false) ∨ (a ≠ [] ∧ fa = false) ∨ (a ≠ [] ∧ fa = true ∧ b = [] ∧ fb = false) ∨ (a ≠ [] ∧ fa = true ∧ b ≠ [] ∧ fb = true) ∨ (a ≠ [] ∧ fa = true ∧ b ≠ [] ∧ fb = false) := by
        cases hfa1 : fa <;> cases hfb1 : fb <;> by_cases ha1 : a = [] <;> by_cases hb1 : b = [] <;> simp_all
      clear hfa0 hfb0
      rcases (show k < s.size ∨ (s.size ≤ k ∧ (0 : Int) ≤ 7 ∧ (0 : Int) ≤ 7 ∧ (0 : Int) ≤ 7 ∧ (0 : Int) ≤ 7 ∧ (0 : Int) ≤ 7 ∧ (0 : Int) ≤ 7 ∧ (0 : Int) ≤ 7 ∧ (0 : Int) ≤ 7 ∧ (0 : Int) ≤ 7 ∧ (0 : Int) ≤ 7) from by omega) with hks | ⟨hks, r1, r2, r3, r4, r5, r6, r7, r8, r9, r10⟩
      all_goals
        rcases hcases with ⟨h1, h2, h4⟩ | ⟨h1, h2, h4⟩ | ⟨h1, h2⟩ | ⟨h1, h2, h3, h4⟩ | ⟨h1, h2, h3, h4⟩ | ⟨h1, h2, h3, h4⟩
        · have hw : Hid (V = elemV (some ((if size - nb < 0 then 0 else size - nb), size, decide (0 < nb ∧ 0 < size)))) := by
            unfold Hid; rw [hv.out, if_pos h1, if_pos h4]
          clear hv
          have hi0 : i = 0 := haz.1 h1
          have hxe : Hid (ByteArray.empty = bs a) := by unfold Hid; rw [h1]; rfl
          subst hi0
          have H1 := Lib.hid h1; have HZ := Lib.hid haz; have HZ2 := Lib.hid hbz; clear h1 haz hbz
          subst h2; subst h4
          by_cases hp : 0 < nb
          · by_cases hm : size - nb < 0
            · go_wp2_with fail
              all_goals (try (exfalso; omega))
              first | rw [hxa.out] | rw [hxe.out]
              refine (rsnum_any (bs a) _ (by rw [size_bs]; unfold maxLen; omega)).mono ?_; rintro e w2 ⟨rfl, rfl⟩
              rw [L_bs, hna.out, hfa.out]
              go_wp2_with fail
              all_goals (try (exfalso; omega))
              rw [hxb.out]
              refine (rsnum_any (bs b) _ (by rw [size_bs]; unfold maxLen; omega)).mono ?_; rintro e w2 ⟨rfl, rfl⟩
              rw [L_bs, hnb.out, hfb.out]
              go_wp2_with fail
              all_goals (try (exfalso; omega))
              all_goals
                refine bodyPost_ret (v := .tuple #[.agg #[.int .i64 (0), .int .i64 (size)], .bool (decide (0 < size)), .bool true]) ?_ rfl ⟨by rw [hw.out]; simp [elemV, hp, hm] <;> omega, ?_⟩
                · simp [results, Tryz.results18, go_sem] <;> omega
                · first | exact (Below.refl _ _).alloc (Nat.le_refl _) _ | exact ((((Below.refl _ _).alloc (Nat.le_refl _) _).setCell (p := ⟨_, 0, none⟩) (Nat.le_refl _) _).setCell (p := ⟨_, 1, none⟩) (Nat.le_refl _) _)
            · go_wp2_with fail
              all_goals (try (exfalso; omega))
              first | rw [hxa.out] | rw [hxe.out]
              refine (rsnum_any (bs a) _ (by rw [size_bs]; unfold maxLen; omega)).mono ?_; rintro e w2 ⟨rfl, rfl⟩
              rw [L_bs, hna.out, hfa.out]
              go_wp2_with fail
              all_goals (try (exfalso; omega))
              rw [hxb.out]
              refine (rsnum_any (bs b) _ (by rw [size_bs]; unfold maxLen; omega)).mono ?_; rintro e w2 ⟨rfl, rfl⟩
              rw [L_bs, hnb.out, hfb.out]
              go_wp2_with fail
              all_goals (try (exfalso; omega))
              all_goals
                refine bodyPost_ret (v := .tuple #[.agg #[.int .i64 (size - nb), .int .i64 (size)], .bool (decide (0 < size)), .bool true]) ?_ rfl ⟨by rw [hw.out]; simp [elemV, hp] <;> omega, ?_⟩
                · simp [results, Tryz.results18, go_sem] <;> omega
                · first | exact (Below.refl _ _).alloc (Nat.le_refl _) _ | exact ((((Below.refl _ _).alloc (Nat.le_refl _) _).setCell (p := ⟨_, 0, none⟩) (Nat.le_refl _) _).setCell (p := ⟨_, 1, none⟩) (Nat.le_refl _) _)
          · obtain rfl : nb = 0 := by omega
            go_wp2_with fail
            all_goals (try (exfalso; omega))
            first | rw [hxa.out] | rw [hxe.out]
            refine (rsnum_any (bs a) _ (by rw [size_bs]; unfold maxLen; omega)).mono ?_; rintro e w2 ⟨rfl, rfl⟩
            rw [L_bs, hna.out, hfa.out]
            go_wp2_with fail
            all_goals (try (exfalso; omega))
            rw [hxb.out]
            refine (rsnum_any (bs b) _ (by rw [size_bs]; unfold maxLen; omega)).mono ?_; rintro e w2 ⟨rfl, rfl⟩
            rw [L_bs, hnb.out, hfb.out]
            go_wp2_with fail
            all_goals (try (exfalso; omega))
            all_goals
              refine bodyPost_ret (v := .tuple #[.agg #[.int .i64 (size), .int .i64 (size)], .bool false, .bool true]) ?_ rfl ⟨by rw [hw.out]; simp [elemV]; omega, ?_⟩
              · simp [results, Tryz.results18, go_sem] <;> omega
              · first | exact (Below.refl _ _).alloc (Nat.le_refl _) _ | exact ((((Below.refl _ _).alloc (Nat.le_refl _) _).setCell (p := ⟨_, 0, none⟩) (Nat.le_refl _) _).setCell (p := ⟨_, 1, none⟩) (Nat.le_refl _) _)
        · have hw : Hid (V = elemV none) := by
            unfold Hid; rw [hv.out, if_pos h1, if_neg (by rw [h4]; simp)]
          clear hv
          have hi0 : i = 0 := haz.1 h1
          have hxe : Hid (ByteArray.empty = bs a) := by unfold Hid; rw [h1]; rfl
          subst hi0
          have H1 := Lib.hid h1; have HZ := Lib.hid haz; have HZ2 := Lib.hid hbz; clear h1 haz hbz
          subst h2; subst h4
          go_wp2_with fail
          all_goals (try (exfalso; omega))
          first | rw [hxa.out] | rw [hxe.out]
          refine (rsnum_any (bs a) _ (by rw [size_bs]; unfold maxLen; omega)).mono ?_; rintro e w2 ⟨rfl, rfl⟩
          rw [L_bs, hna.out, hfa.out]
          go_wp2_with fail
          all_goals (try (exfalso; omega))
          rw [hxb.out]
          refine (rsnum_any (bs b) _ (by rw [size_bs]; unfold maxLen; omega)).mono ?_; rintro e w2 ⟨rfl, rfl⟩
          rw [L_bs, hnb.out, hfb.out]
          go_wp2_with fail
          all_goals (try (exfalso; omega))
          all_goals
            refine bodyPost_ret (v := .tuple #[.agg #[.int .i64 (0), .int .i64 (0)], .bool false, .bool false]) ?_ rfl ⟨by rw [hw.out]; rfl, ?_⟩
            · simp [results, Tryz.results18, go_sem] <;> omega
            · first | exact (Below.refl _ _).alloc (Nat.le_refl _) _ | exact ((((Below.refl _ _).alloc (Nat.le_refl _) _).setCell (p := ⟨_, 0, none⟩) (Nat.le_refl _) _).setCell (p := ⟨_, 1, none⟩) (Nat.le_refl _) _)
        · have hw : Hid (V = elemV none) := by
            unfold Hid; rw [hv.out, if_neg h1, if_pos h2]
          clear hv
          have hi0 : ((i : Int) == 0) = false := by have := mt haz.2 h1; simp; omega
          have hi1 : 0 < i := by have := mt haz.2 h1; omega
          have H1 := Lib.hid h1; have HZ := Lib.hid haz; have HZ2 := Lib.hid hbz; clear h1 haz hbz
          subst h2
          go_wp2_with fail
          all_goals (try (exfalso; omega))
          first | rw [hxa.out] | rw [hxe.out]
          refine (rsnum_any (bs a) _ (by rw [size_bs]; unfold maxLen; omega)).mono ?_; rintro e w2 ⟨rfl, rfl⟩
          rw [L_bs, hna.out, hfa.out]
          go_wp2_with fail
          all_goals (try (exfalso; omega))
          rw [hxb.out]
          refine (rsnum_any (bs b) _ (by rw [size_bs]; unfold maxLen; omega)).mono ?_; rintro e w2 ⟨rfl, rfl⟩
          rw [L_bs, hnb.out, hfb.out]
          go_wp2_with fail
          all_goals (try (exfalso; omega))
          all_goals
            refine bodyPost_ret (v := .tuple #[.agg #[.int .i64 (0), .int .i64 (0)], .bool false, .bool false]) ?_ rfl ⟨by rw [hw.out]; rfl, ?_⟩
            · simp [results, Tryz.results18, go_sem] <;> omega
            · first | exact (Below.refl _ _).alloc (Nat.le_refl _) _ | exact ((((Below.refl _ _).alloc (Nat.le_refl _) _).setCell (p := ⟨_, 0, none⟩) (Nat.le_refl _) _).setCell (p := ⟨_, 1, none⟩) (Nat.le_refl _) _)
        · have hw : Hid (V = elemV (some (na, size, decide (na < size)))) := by
            unfold Hid; rw [hv.out, if_neg h1, if_neg (by rw [h2]; simp), if_pos h3]
          clear hv
          have hi0 : ((i : Int) == 0) = false := by have := mt haz.2 h1; simp; omega
          have hi1 : 0 < i := by have := mt haz.2 h1; omega
          have hbi : (s.size : Int) ≤ (i : Int) + 1 := by have := hbz.1 h3; omega
          have H1 := Lib.hid h1; have HZ := Lib.hid haz; have HZ2 := Lib.hid hbz; clear h1 haz hbz
          have H3 := Lib.hid h3; clear h3
          subst h2; subst h4
          go_wp2_with fail
          all_goals (try (exfalso; omega))
          first | rw [hxa.out] | rw [hxe.out]
          refine (rsnum_any (bs a) _ (by rw [size_bs]; unfold maxLen; omega)).mono ?_; rintro e w2 ⟨rfl, rfl⟩
          rw [L_bs, hna.out, hfa.out]
          go_wp2_with fail
          all_goals (try (exfalso; omega))
          rw [hxb.out]
          refine (rsnum_any (bs b) _ (by rw [size_bs]; unfold maxLen; omega)).mono ?_; rintro e w2 ⟨rfl, rfl⟩
          rw [L_bs, hnb.out, hfb.out]
          go_wp2_with fail
          all_goals (try (exfalso; omega))
          all_goals
            refine bodyPost_ret (v := .tuple #[.agg #[.int .i64 (na), .int .i64 (size)], .bool (decide (na < size)), .bool true]) ?_ rfl ⟨by rw [hw.out]; rfl, ?_⟩
            · simp [results, Tryz.results18, go_sem] <;> omega
            · first | exact (Below.refl _ _).alloc (Nat.le_refl _) _ | exact ((((Below.refl _ _).alloc (Nat.le_refl _) _).setCell (p := ⟨_, 0, none⟩) (Nat.le_refl _) _).setCell (p := ⟨_, 1, none⟩) (Nat.le_refl _) _)
        · have hv5 : Hid (V = elemV (if na ≤ nb then some (na, (if nb < size then nb + 1 else size), decide (na < size)) else none)) := by
            unfold Hid; rw [hv.out, if_neg h1, if_neg (by rw [h2]; simp), if_neg h3]; simp [h4]
          clear hv
          have hi0 : ((i : Int) == 0) = false := by have := mt haz.2 h1; simp; omega
          have hi1 : 0 < i := by have := mt haz.2 h1; omega
          have hbi : (i : Int) + 1 < (s.size : Int) := by have := mt hbz.2 h3; omega
          have H1 := Lib.hid h1; have HZ := Lib.hid haz; have HZ2 := Lib.hid hbz; clear h1 haz hbz
          have H3 := Lib.hid h3; clear h3
          subst h2; subst h4
          by_cases hle : na ≤ nb
          · have hw : Hid (V = elemV (some (na, (if nb < size then nb + 1 else size), decide (na < size)))) := by
              unfold Hid; rw [hv5.out, if_pos hle]
            by_cases hsz : nb < size
            · go_wp2_with fail
              all_goals (try (exfalso; omega))
              first | rw [hxa.out] | rw [hxe.out]
              refine (rsnum_any (bs a) _ (by rw [size_bs]; unfold maxLen; omega)).mono ?_; rintro e w2 ⟨rfl, rfl⟩
              rw [L_bs, hna.out, hfa.out]
              go_wp2_with fail
              all_goals (try (exfalso; omega))
              rw [hxb.out]
              refine (rsnum_any (bs b) _ (by rw [size_bs]; unfold maxLen; omega)).mono ?_; rintro e w2 ⟨rfl, rfl⟩
              rw [L_bs, hnb.out, hfb.out]
              go_wp2_with fail
              all_goals (try (exfalso; omega))
              all_goals
                refine bodyPost_ret (v := .tuple #[.agg #[.int .i64 (na), .int .i64 (nb + 1)], .bool (decide (na < size)), .bool true]) ?_ rfl ⟨by rw [hw.out]; simp [elemV, hsz] <;> omega, ?_⟩
                · simp [results, Tryz.results18, go_sem] <;> omega
                · first | exact (Below.refl _ _).alloc (Nat.le_refl _) _ | exact ((((Below.refl _ _).alloc (Nat.le_refl _) _).setCell (p := ⟨_, 0, none⟩) (Nat.le_refl _) _).setCell (p := ⟨_, 1, none⟩) (Nat.le_refl _) _)
            · go_wp2_with fail
              all_goals (try (exfalso; omega))
              first | rw [hxa.out] | rw [hxe.out]
              refine (rsnum_any (bs a) _ (by rw [size_bs]; unfold maxLen; omega)).mono ?_; rintro e w2 ⟨rfl, rfl⟩
              rw [L_bs, hna.out, hfa.out]
              go_wp2_with fail
              all_goals (try (exfalso; omega))
              rw [hxb.out]
              refine (rsnum_any (bs b) _ (by rw [size_bs]; unfold maxLen; omega)).mono ?_; rintro e w2 ⟨rfl, rfl⟩
              rw [L_bs, hnb.out, hfb.out]
              go_wp2_with fail
              all_goals (try (exfalso; omega))
              all_goals
                refine bodyPost_ret (v := .tuple #[.agg #[.int .i64 (na), .int .i64 (size)], .bool (decide (na < size)), .bool true]) ?_ rfl ⟨by rw [hw.out]; simp [elemV] <;> omega, ?_⟩
                · simp [results, Tryz.results18, go_sem] <;> omega
                · first | exact (Below.refl _ _).alloc (Nat.le_refl _) _ | exact ((((Below.refl _ _).alloc (Nat.le_refl _) _).setCell (p := ⟨_, 0, none⟩) (Nat.le_refl _) _).setCell (p := ⟨_, 1, none⟩) (Nat.le_refl _) _)
          · have hw : Hid (V = elemV none) := by
              unfold Hid; rw [hv5.out, if_neg hle]
            go_wp2_with fail
            all_goals (try (exfalso; omega))
            first | rw [hxa.out] | rw [hxe.out]
            refine (rsnum_any (bs a) _ (by rw [size_bs]; unfold maxLen; omega)).mono ?_; rintro e w2 ⟨rfl, rfl⟩
            rw [L_bs, hna.out, hfa.out]
            go_wp2_with fail
            all_goals (try (exfalso; omega))
            rw [hxb.out]
            refine (rsnum_any (bs b) _ (by rw [size_bs]; unfold maxLen; omega)).mono ?_; rintro e w2 ⟨rfl, rfl⟩
            rw [L_bs, hnb.out, hfb.out]
            go_wp2_with fail
            all_goals (try (exfalso; omega))
            all_goals
              refine bodyPost_ret (v := .tuple #[.agg #[.int .i64 (0), .int .i64 (0)], .bool false, .bool false]) ?_ rfl ⟨by rw [hw.out]; rfl, ?_⟩
              · simp [results, Tryz.results18, go_sem] <;> omega
              · first | exact (Below.refl _ _).alloc (Nat.le_refl _) _ | exact ((((Below.refl _ _).alloc (Nat.le_refl _) _).setCell (p := ⟨_, 0, none⟩) (Nat.le_refl _) _).setCell (p := ⟨_, 1, none⟩) (Nat.le_refl _) _)
        · have hw : Hid (V = elemV none) := by
            unfold Hid; rw [hv.out, if_neg h1, if_neg (by rw [h2]; simp), if_neg h3]; simp [h4]
          clear hv
          have hi0 : ((i : Int) == 0) = false := by have := mt haz.2 h1; simp; omega
          have hi1 : 0 < i := by have := mt haz.2 h1; omega
          have hbi : (i : Int) + 1 < (s.size : Int) := by have := mt hbz.2 h3; omega
          have H1 := Lib.hid h1; have HZ := Lib.hid haz; have HZ2 := Lib.hid hbz; clear h1 haz hbz
          have H3 := Lib.hid h3; clear h3
          subst h2; subst h4
          go_wp2_with fail
          all_goals (try (exfalso; omega))
          first | rw [hxa.out] | rw [hxe.out]
          refine (rsnum_any (bs a) _ (by rw [size_bs]; unfold maxLen; omega)).mono ?_; rintro e w2 ⟨rfl, rfl⟩
          rw [L_bs, hna.out, hfa.out]
          go_wp2_with fail
          all_goals (try (exfalso; omega))
          rw [hxb.out]
          refine (rsnum_any (bs b) _ (by rw [size_bs]; unfold maxLen; omega)).mono ?_; rintro e w2 ⟨rfl, rfl⟩
          rw [L_bs, hnb.out, hfb.out]
          go_wp2_with fail
          all_goals (try (exfalso; omega))
          all_goals
            refine bodyPost_ret (v := .tuple #[.agg #[.int .i64 (0), .int .i64 (0)], .bool false, .bool false]) ?_ rfl ⟨by rw [hw.out]; rfl, ?_⟩
            · simp [results, Tryz.results18, go_sem] <;> omega
            · first | exact (Below.refl _ _).alloc (Nat.le_refl _) _ | exact ((((Below.refl _ _).alloc (Nat.le_refl _) _).setCell (p := ⟨_, 0, none⟩) (Nat.le_refl _) _).setCell (p := ⟨_, 1, none⟩) (Nat.le_refl _) _)
end Go.Proofs.YtnodboggemggmaaGreatDoor
