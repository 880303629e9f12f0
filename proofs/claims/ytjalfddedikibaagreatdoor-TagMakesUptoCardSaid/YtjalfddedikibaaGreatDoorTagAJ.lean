/- Contracts of tag: a tag's bytes; the tag that a text begins with. Program's. -/
import Derived.Test.YtjalfddedikibaaGreatDoorMc
import Derived.Test.YtjalfddedikibaaGreatDoorShelf
namespace Go.Proofs.YtjalfddedikibaaGreatDoor
open Go Go.RowKit
set_option maxHeartbeats 4000000

abbrev tT : TypeId := 26
def encT (t : Tg) : Value := .agg #[.bool t.1, .string (bs t.2)]
theorem inT_iff (c : UInt8) : inT c = true ↔ (c.toNat = 33 ∨ (35 ≤ c.toNat ∧ c.toNat ≤ 126) ∨ 128 ≤ c.toNat) := by
  unfold inT
  rw [Bool.or_eq_true, Bool.or_eq_true, Bool.and_eq_true, beq_iff_eq, decide_eq_true_eq, decide_eq_true_eq, decide_eq_true_eq, ← UInt8.toNat_inj]
  exact or_assoc
theorem isbyte_any (c : UInt8) (w : World) : Calls Tryz.prog 40 #[.int .u8 c.toNat] w fun e w' => e = .returned (.bool (inT c)) ∧ w = w' := by
  have hi := inT_iff c
  obtain ⟨R, hR⟩ := name_it (inT c)
  rw [hR.out] at hi ⊢
  have HI := Lib.hid hi
  clear hi hR
  go_enter Tryz.func40, Tryz.ntmps40
  go_wp2
  all_goals go_ret
  all_goals exact ⟨ret_bool (by rw [Bool.eq_iff_iff, HI.out]; (try simp only [] at *); simp; omega), rfl⟩

theorem bel2 (w : World) (o1 o2 : Obj) : Below w.heap.size w ((w.alloc o1).alloc o2) := ((Below.refl _ _).alloc (Nat.le_refl _) _).alloc (by simp) _
def rdV (r : Tg × Nat × Bool) : Value := .tuple #[encT r.1, .int .i64 (r.2.1 : Nat), .bool r.2.2]
theorem pref87 (s : ByteArray) : Lib.hasPrefix s.data.toList (⟨#[87]⟩ : ByteArray).data.toList = decide ((L s).head? = some 87) := by
  show Lib.hasPrefix (L s) [87] = _
  unfold Lib.hasPrefix
  cases L s with
  | nil => rfl
  | cons c r =>
    rw [Bool.eq_iff_iff]
    simp [List.isPrefixOf]
    exact eq_comm

set_option maxRecDepth 100000 in
theorem read_any (s : ByteArray) (w : World) (hs : s.size ≤ 1073741824) :
    Calls Tryz.prog 41 #[.string s] w fun e w' => e = .returned (rdV (rdT (L s))) ∧ Below w.heap.size w w' := by
  have HP : Hid (∀ wx, Calls Tryz.prog 61 #[.string s, .string ⟨#[87]⟩] wx fun e w' => e = .returned (.bool (decide ((L s).head? = some 87))) ∧ wx = w') := fun wx => (Tryz.strings_HasPrefix s ⟨#[87]⟩ wx).mono fun e w' ⟨h1, h2⟩ => ⟨by rw [h1, pref87], h2.symm⟩
  by_cases hz : s.size = 0
  · have hl : L s = [] := List.eq_nil_of_length_eq_zero (by rw [L_length]; exact hz)
    have HF : Hid (rdT (L s) = (noT, 0, false)) := by unfold Hid; rw [hl]; rfl
    rw [hl] at HP
    clear hl
    go_enter Tryz.func41, Tryz.ntmps41
    go_wp2_with fail
    refine (HP.out _).mono ?_; rintro e w' ⟨rfl, rfl⟩
    go_wp2_with fail
    all_goals (try (exfalso; omega))
    refine bodyPost_ret (v := .tuple #[.agg #[.bool false, .string (⟨#[]⟩)], .int .i64 0, .bool false]) (by simp [results, Tryz.results41, go_sem]) rfl ⟨by rw [HF.out]; rfl, bel2 _ _ _⟩
  · have hlt : 0 < s.size := by omega
    have hd := L_drop hlt
    rw [List.drop_zero] at hd
    obtain ⟨c, hc⟩ := name_it s[0]
    rw [hc.out] at hd
    have hck := hc.out
    by_cases h87 : c = 87
    · have hp : decide ((L s).head? = some 87) = true := by rw [hd, h87]; rfl
      rw [hp] at HP
      by_cases hz1 : s.size = 1
      · have HF : Hid (rdT (L s) = (noT, 1, false)) := by unfold Hid; rw [hd, List.drop_of_length_le (by rw [L_length]; omega), h87, rdT_w1]
        clear hd h87 hp
        go_enter Tryz.func41, Tryz.ntmps41
        go_wp2_with fail
        refine (HP.out _).mono ?_; rintro e w' ⟨rfl, rfl⟩
        go_wp2_with fail
        all_goals (try (exfalso; omega))
        refine bodyPost_ret (v := .tuple #[.agg #[.bool false, .string (⟨#[]⟩)], .int .i64 1, .bool false]) (by simp [results, Tryz.results41, go_sem]) rfl ⟨by rw [HF.out]; rfl, bel2 _ _ _⟩
      · have hlt1 : 1 < s.size := by omega
        have hd1 := L_drop hlt1
        obtain ⟨d, hd'⟩ := name_it s[1]
        rw [hd'.out] at hd1
        have hdk := hd'.out
        rw [hd1] at hd
        by_cases h47 : d = 47
        · have HRD : rdT (L s) = rdB true 2 ((L s).drop 2) := by
            conv => lhs; rw [hd]
            rw [h87, rdT_w, if_pos h47]
          have e47 : ((d.toNat : Int) != 47) = false := by rw [h47]; rfl
          clear hd hd1 h87 hp h47
          go_enter Tryz.func41, Tryz.ntmps41
          go_wp2_with fail
          refine (HP.out _).mono ?_; rintro e w' ⟨rfl, rfl⟩
          clear HP
          have HRES : Hid (rdT (L s) = rdB true 2 ((L s).drop 2)) := by unfold Hid; exact HRD
          clear HRD
          by_cases hz : s.size = 2
          · have HF : Hid (rdT (L s) = (noT, 2, false)) := by unfold Hid; rw [HRES.out, List.drop_of_length_le (by rw [L_length]; omega)]; rfl
            go_wp2_with fail
            all_goals (try (exfalso; omega))
            refine bodyPost_ret (v := .tuple #[.agg #[.bool false, .string (⟨#[]⟩)], .int .i64 2, .bool false]) (by simp [results, Tryz.results41, go_sem]) rfl ⟨by rw [HF.out]; rfl, bel2 _ _ _⟩
          · have hlt0 : 2 < s.size := by omega
            have hd := L_drop hlt0
            obtain ⟨q, hq⟩ := name_it s[2]
            rw [hq.out] at hd
            have hqk := hq.out
            have HDR := Lib.hid hd
            clear hd
            by_cases h34 : q = 34
            · have e34 : ((q.toNat : Int) != 34) = false := by rw [h34]; rfl
              have dz : decide ((s.size : Int) ≤ 2) = false := decide_eq_false (by omega)
              obtain ⟨n, hn⟩ := name_it (scT 0 ((L s).drop 3)).1
              obtain ⟨ok, hok⟩ := name_it (scT 0 ((L s).drop 3)).2
              have HR2 : Hid (rdT (L s) = if ok = true then ((true, ((L s).drop 3).take n), 2 + n + 2, true) else (noT, 2 + n + 1, false)) := by
                unfold Hid; rw [HRES.out, HDR.out, rdB_cons, if_pos h34, hn.out, hok.out]
              clear h34
              go_wp2_with fail
              all_goals (try (exfalso; omega))
              go_loop [6] (fun i => ∃ k : Nat, 3 ≤ k ∧ k ≤ s.size ∧ i = .int .i64 k ∧ Hid ((scT (k - 3) ((L s).drop k)).1 + (k - 3) = n) ∧ Hid ((scT (k - 3) ((L s).drop k)).2 = ok)) (fun i => s.size - (intOf i).toNat)
              case atStart => exact ⟨3, Nat.le_refl _, by omega, rfl, hn, hok⟩
              case round =>
                obtain ⟨k, hfk, hk, rfl, h1, h2⟩ := hrel
                by_cases hlt : k < s.size
                · have q0 : (0 : Int) ≤ (k : Int) := by omega
                  have q1 : (k : Int) < (s.size : Int) := by omega
                  have q2 : (k : Int) ≤ (s.size : Int) := by omega
                  have g1 := h1.out
                  have g2 := h2.out
                  rw [L_drop hlt] at g1 g2
                  obtain ⟨c, hc⟩ := name_it s[k]
                  rw [hc.out] at g1 g2
                  have hck := hc.out
                  unfold scT at g1 g2
                  by_cases hc34 : c = 34
                  · rw [if_pos hc34] at g1 g2
                    have hnk : n = k - 3 := by simp only at g1; omega
                    have hkk : Hid (ok = true) := g2.symm
                    have HF : Hid (rdT (L s) = ((true, ((L s).drop 3).take (k - 3)), k + 1, true)) := by
                      unfold Hid; rw [HR2.out, hkk.out, if_pos rfl, hnk]
                      congr 2; omega
                    have c34 : ((c.toNat : Int) == 34) = true := by rw [hc34]; rfl
                    have HX : Hid (s.extract 3 k = bs (((L s).drop 3).take (k - 3))) := by unfold Hid; rw [extract_bs, List.drop_take]
                    have q3 : (3 : Int) ≤ (k : Int) := by omega
                    clear g1 g2 h1 h2 hc34 hnk hkk HR2 hn hok
                    obtain ⟨X, hX⟩ := name_it (((L s).drop 3).take (k - 3))
                    rw [hX.out] at HF HX
                    clear hX
                    go_wp2_with fail
                    all_goals (try (exfalso; omega))
                    refine bodyPost_ret (v := .tuple #[.agg #[.bool true, .string (bs X)], .int .i64 ((k : Int) + 1), .bool true]) (by simp [results, Tryz.results41, go_sem]; exact HX.out) rfl ⟨by rw [HF.out]; rfl, bel2 _ _ _⟩
                  · rw [if_neg hc34] at g1 g2
                    have c34 : ((c.toNat : Int) == 34) = false := by
                      rw [beq_eq_false_iff_ne]; intro e; exact hc34 (UInt8.toNat_inj.1 (by show c.toNat = 34; omega))
                    by_cases hin : inT c = true ∧ k - 3 < 256
                    · rw [if_pos hin] at g1 g2
                      obtain ⟨hi1, hi2⟩ := hin
                      have hd256 : decide ((256 : Int) ≤ (k : Int) - 3) = false := decide_eq_false (by omega)
                      have N1 : Hid ((scT (k + 1 - 3) ((L s).drop (k + 1))).1 + (k + 1 - 3) = n) := by
                        unfold Hid; rw [show k + 1 - 3 = k - 3 + 1 by omega]; simp only at g1; omega
                      have N2 : Hid ((scT (k + 1 - 3) ((L s).drop (k + 1))).2 = ok) := by
                        unfold Hid; rw [show k + 1 - 3 = k - 3 + 1 by omega]; exact g2
                      clear g1 g2 h1 h2 hc34
                      go_wp2_with fail
                      all_goals (try (exfalso; omega))
                      refine (isbyte_any c _).mono ?_; rintro e w' ⟨rfl, rfl⟩
                      go_wp2_with fail
                      all_goals (try (exfalso; omega))
                      go_round
                      case rel => exact ⟨k + 1, by omega, by omega, by go_num, N1, N2⟩
                      case measure => simp [intOf]; omega
                    · rw [if_neg hin] at g1 g2
                      have hnk : n = k - 3 := by simp only at g1; omega
                      have hkk : Hid (ok = false) := g2.symm
                      have HF : Hid (rdT (L s) = (noT, k, false)) := by
                        unfold Hid; rw [HR2.out, hkk.out, if_neg (by decide), hnk]
                        congr 2; omega
                      have h256 : inT c = false ∨ (inT c = true ∧ decide ((256 : Int) ≤ (k : Int) - 3) = true) := by
                        cases hic : inT c with
                        | false => exact Or.inl rfl
                        | true => exact Or.inr ⟨rfl, decide_eq_true (by have : ¬ (k - 3 < 256) := fun h => hin ⟨hic, h⟩; omega)⟩
                      clear g1 g2 h1 h2 hc34 hnk hkk HR2 hn hok hin
                      rcases h256 with hi1 | ⟨hi1, hd256⟩
                      all_goals
                        go_wp2_with fail
                        all_goals (try (exfalso; omega))
                        refine (isbyte_any c _).mono ?_; rintro e w' ⟨rfl, rfl⟩
                        go_wp2_with fail
                        all_goals (try (exfalso; omega))
                        refine bodyPost_ret (v := .tuple #[.agg #[.bool false, .string (⟨#[]⟩)], .int .i64 (k : Nat), .bool false]) (by simp [results, Tryz.results41, go_sem]) rfl ⟨by rw [HF.out]; rfl, bel2 _ _ _⟩
                · obtain rfl : k = s.size := by omega
                  have g1 := h1.out
                  have g2 := h2.out
                  rw [L_drop_all] at g1 g2
                  unfold scT at g1 g2
                  have hnk : n = s.size - 3 := by simp only at g1; omega
                  have hkk : Hid (ok = false) := g2.symm
                  have HF : Hid (rdT (L s) = (noT, s.size, false)) := by
                    unfold Hid; rw [HR2.out, hkk.out, if_neg (by decide), hnk]
                    congr 2; omega
                  clear g1 g2 h1 h2 hnk hkk HR2 hn hok
                  go_wp2_with fail
                  all_goals (try (exfalso; omega))
                  refine bodyPost_ret (v := .tuple #[.agg #[.bool false, .string (⟨#[]⟩)], .int .i64 (s.size : Nat), .bool false]) (by simp [results, Tryz.results41, go_sem]) rfl ⟨by rw [HF.out]; rfl, bel2 _ _ _⟩
            · have HF : Hid (rdT (L s) = (noT, 2, false)) := by unfold Hid; rw [HRES.out, HDR.out, rdB_cons, if_neg h34]
              have e34 : ((q.toNat : Int) != 34) = true := by
                rw [bne_iff_ne]; intro e; exact h34 (UInt8.toNat_inj.1 (by show q.toNat = 34; omega))
              clear h34
              go_wp2_with fail
              all_goals (try (exfalso; omega))
              refine bodyPost_ret (v := .tuple #[.agg #[.bool false, .string (⟨#[]⟩)], .int .i64 2, .bool false]) (by simp [results, Tryz.results41, go_sem]) rfl ⟨by rw [HF.out]; rfl, bel2 _ _ _⟩
        · have HF : Hid (rdT (L s) = (noT, 1, false)) := by
            unfold Hid; rw [hd, h87, rdT_w, if_neg h47]
          have e47 : ((d.toNat : Int) != 47) = true := by
            rw [bne_iff_ne]; intro e; exact h47 (UInt8.toNat_inj.1 (by show d.toNat = 47; omega))
          clear hd hd1 h87 hp h47
          go_enter Tryz.func41, Tryz.ntmps41
          go_wp2_with fail
          refine (HP.out _).mono ?_; rintro e w' ⟨rfl, rfl⟩
          go_wp2_with fail
          all_goals (try (exfalso; omega))
          refine bodyPost_ret (v := .tuple #[.agg #[.bool false, .string (⟨#[]⟩)], .int .i64 1, .bool false]) (by simp [results, Tryz.results41, go_sem]) rfl ⟨by rw [HF.out]; rfl, bel2 _ _ _⟩
    · have hp : decide ((L s).head? = some 87) = false := by rw [hd]; simpa using h87
      rw [hp] at HP
      have HRD : rdT (L s) = rdB false 0 ((L s).drop 0) := by
        rw [List.drop_zero]
        conv => lhs; rw [hd]
        rw [rdT_c h87, ← hd]
      clear hd h87 hp hck hc
      go_enter Tryz.func41, Tryz.ntmps41
      go_wp2_with fail
      refine (HP.out _).mono ?_; rintro e w' ⟨rfl, rfl⟩
      clear HP
      have HRES : Hid (rdT (L s) = rdB false 0 ((L s).drop 0)) := by unfold Hid; exact HRD
      clear HRD
      by_cases hz : s.size = 0
      · omega
      · have hlt0 : 0 < s.size := by omega
        have hd := L_drop hlt0
        obtain ⟨q, hq⟩ := name_it s[0]
        rw [hq.out] at hd
        have hqk := hq.out
        have HDR := Lib.hid hd
        clear hd
        by_cases h34 : q = 34
        · have e34 : ((q.toNat : Int) != 34) = false := by rw [h34]; rfl
          have dz : decide ((s.size : Int) ≤ 0) = false := decide_eq_false (by omega)
          obtain ⟨n, hn⟩ := name_it (scT 0 ((L s).drop 1)).1
          obtain ⟨ok, hok⟩ := name_it (scT 0 ((L s).drop 1)).2
          have HR2 : Hid (rdT (L s) = if ok = true then ((false, ((L s).drop 1).take n), 0 + n + 2, true) else (noT, 0 + n + 1, false)) := by
            unfold Hid; rw [HRES.out, HDR.out, rdB_cons, if_pos h34, hn.out, hok.out]
          clear h34
          go_wp2_with fail
          all_goals (try (exfalso; omega))
          go_loop [6] (fun i => ∃ k : Nat, 1 ≤ k ∧ k ≤ s.size ∧ i = .int .i64 k ∧ Hid ((scT (k - 1) ((L s).drop k)).1 + (k - 1) = n) ∧ Hid ((scT (k - 1) ((L s).drop k)).2 = ok)) (fun i => s.size - (intOf i).toNat)
          case atStart => exact ⟨1, Nat.le_refl _, by omega, rfl, hn, hok⟩
          case round =>
            obtain ⟨k, hfk, hk, rfl, h1, h2⟩ := hrel
            by_cases hlt : k < s.size
            · have q0 : (0 : Int) ≤ (k : Int) := by omega
              have q1 : (k : Int) < (s.size : Int) := by omega
              have q2 : (k : Int) ≤ (s.size : Int) := by omega
              have g1 := h1.out
              have g2 := h2.out
              rw [L_drop hlt] at g1 g2
              obtain ⟨c, hc⟩ := name_it s[k]
              rw [hc.out] at g1 g2
              have hck := hc.out
              unfold scT at g1 g2
              by_cases hc34 : c = 34
              · rw [if_pos hc34] at g1 g2
                have hnk : n = k - 1 := by simp only at g1; omega
                have hkk : Hid (ok = true) := g2.symm
                have HF : Hid (rdT (L s) = ((false, ((L s).drop 1).take (k - 1)), k + 1, true)) := by
                  unfold Hid; rw [HR2.out, hkk.out, if_pos rfl, hnk]
                  congr 2; omega
                have c34 : ((c.toNat : Int) == 34) = true := by rw [hc34]; rfl
                have HX : Hid (s.extract 1 k = bs (((L s).drop 1).take (k - 1))) := by unfold Hid; rw [extract_bs, List.drop_take]
                have q3 : (1 : Int) ≤ (k : Int) := by omega
                clear g1 g2 h1 h2 hc34 hnk hkk HR2 hn hok
                obtain ⟨X, hX⟩ := name_it (((L s).drop 1).take (k - 1))
                rw [hX.out] at HF HX
                clear hX
                go_wp2_with fail
                all_goals (try (exfalso; omega))
                refine bodyPost_ret (v := .tuple #[.agg #[.bool false, .string (bs X)], .int .i64 ((k : Int) + 1), .bool true]) (by simp [results, Tryz.results41, go_sem]; exact HX.out) rfl ⟨by rw [HF.out]; rfl, bel2 _ _ _⟩
              · rw [if_neg hc34] at g1 g2
                have c34 : ((c.toNat : Int) == 34) = false := by
                  rw [beq_eq_false_iff_ne]; intro e; exact hc34 (UInt8.toNat_inj.1 (by show c.toNat = 34; omega))
                by_cases hin : inT c = true ∧ k - 1 < 256
                · rw [if_pos hin] at g1 g2
                  obtain ⟨hi1, hi2⟩ := hin
                  have hd256 : decide ((256 : Int) ≤ (k : Int) - 1) = false := decide_eq_false (by omega)
                  have N1 : Hid ((scT (k + 1 - 1) ((L s).drop (k + 1))).1 + (k + 1 - 1) = n) := by
                    unfold Hid; rw [show k + 1 - 1 = k - 1 + 1 by omega]; simp only at g1; omega
                  have N2 : Hid ((scT (k + 1 - 1) ((L s).drop (k + 1))).2 = ok) := by
                    unfold Hid; rw [show k + 1 - 1 = k - 1 + 1 by omega]; exact g2
                  clear g1 g2 h1 h2 hc34
                  go_wp2_with fail
                  all_goals (try (exfalso; omega))
                  refine (isbyte_any c _).mono ?_; rintro e w' ⟨rfl, rfl⟩
                  go_wp2_with fail
                  all_goals (try (exfalso; omega))
                  go_round
                  case rel => exact ⟨k + 1, by omega, by omega, by go_num, N1, N2⟩
                  case measure => simp [intOf]; omega
                · rw [if_neg hin] at g1 g2
                  have hnk : n = k - 1 := by simp only at g1; omega
                  have hkk : Hid (ok = false) := g2.symm
                  have HF : Hid (rdT (L s) = (noT, k, false)) := by
                    unfold Hid; rw [HR2.out, hkk.out, if_neg (by decide), hnk]
                    congr 2; omega
                  have h256 : inT c = false ∨ (inT c = true ∧ decide ((256 : Int) ≤ (k : Int) - 1) = true) := by
                    cases hic : inT c with
                    | false => exact Or.inl rfl
                    | true => exact Or.inr ⟨rfl, decide_eq_true (by have : ¬ (k - 1 < 256) := fun h => hin ⟨hic, h⟩; omega)⟩
                  clear g1 g2 h1 h2 hc34 hnk hkk HR2 hn hok hin
                  rcases h256 with hi1 | ⟨hi1, hd256⟩
                  all_goals
                    go_wp2_with fail
                    all_goals (try (exfalso; omega))
                    refine (isbyte_any c _).mono ?_; rintro e w' ⟨rfl, rfl⟩
                    go_wp2_with fail
                    all_goals (try (exfalso; omega))
                    refine bodyPost_ret (v := .tuple #[.agg #[.bool false, .string (⟨#[]⟩)], .int .i64 (k : Nat), .bool false]) (by simp [results, Tryz.results41, go_sem]) rfl ⟨by rw [HF.out]; rfl, bel2 _ _ _⟩
            · obtain rfl : k = s.size := by omega
              have g1 := h1.out
              have g2 := h2.out
              rw [L_drop_all] at g1 g2
              unfold scT at g1 g2
              have hnk : n = s.size - 1 := by simp only at g1; omega
              have hkk : Hid (ok = false) := g2.symm
              have HF : Hid (rdT (L s) = (noT, s.size, false)) := by
                unfold Hid; rw [HR2.out, hkk.out, if_neg (by decide), hnk]
                congr 2; omega
              clear g1 g2 h1 h2 hnk hkk HR2 hn hok
              go_wp2_with fail
              all_goals (try (exfalso; omega))
              refine bodyPost_ret (v := .tuple #[.agg #[.bool false, .string (⟨#[]⟩)], .int .i64 (s.size : Nat), .bool false]) (by simp [results, Tryz.results41, go_sem]) rfl ⟨by rw [HF.out]; rfl, bel2 _ _ _⟩
        · have HF : Hid (rdT (L s) = (noT, 0, false)) := by unfold Hid; rw [HRES.out, HDR.out, rdB_cons, if_neg h34]
          have e34 : ((q.toNat : Int) != 34) = true := by
            rw [bne_iff_ne]; intro e; exact h34 (UInt8.toNat_inj.1 (by show q.toNat = 34; omega))
          clear h34
          go_wp2_with fail
          all_goals (try (exfalso; omega))
          refine bodyPost_ret (v := .tuple #[.agg #[.bool false, .string (⟨#[]⟩)], .int .i64 0, .bool false]) (by simp [results, Tryz.results41, go_sem]) rfl ⟨by rw [HF.out]; rfl, bel2 _ _ _⟩
end Go.Proofs.YtjalfddedikibaaGreatDoor
