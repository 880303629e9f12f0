/- Contracts of the document's tag: a tag's bytes; the tag that begins at a place. -/
import Derived.Test.YtjalfddedikibaaGreatDoorTagAJ
namespace Go.Proofs.YtjalfddedikibaaGreatDoor
open Go Go.RowKit
set_option maxHeartbeats 4000000

theorem inside_any (c : UInt8) (w : World) : Calls Tryz.prog 85 #[.int .u8 c.toNat] w fun e w' => e = .returned (.bool (inT c)) ∧ w = w' := by
  have hi := inT_iff c
  obtain ⟨R, hR⟩ := name_it (inT c)
  rw [hR.out] at hi ⊢
  have HI := Lib.hid hi
  clear hi hR
  go_enter Tryz.func85, Tryz.ntmps85
  go_wp2
  all_goals go_ret
  all_goals exact ⟨ret_bool (by rw [Bool.eq_iff_iff, HI.out]; (try simp only [] at *); simp; omega), rfl⟩
def rrdV (a : Nat) (r : Tg × Nat × Bool) : Value := .tuple #[encT r.1, .int .i64 ((a + r.2.1 : Nat) : Int), .bool r.2.2]
theorem rrdV_of {a n m : Nat} {t : Tg} {ok : Bool} (h : a + n = m) : rrdV a (t, n, ok) = .tuple #[encT t, .int .i64 (m : Nat), .bool ok] := by unfold rrdV; rw [← h]

set_option maxRecDepth 100000 in
theorem trread_any (s : ByteArray) (a : Nat) (w : World) (hs : s.size ≤ 1073741824) (ha : a ≤ s.size) :
    Calls Tryz.prog 56 #[.string s, .int .i64 a] w fun e w' => e = .returned (rrdV a (rdT ((L s).drop a))) ∧ Below w.heap.size w w' := by
  by_cases hz : s.size = a
  · have HF : Hid (rdT ((L s).drop a) = (noT, 0, false)) := by unfold Hid; rw [List.drop_of_length_le (by rw [L_length]; omega)]; rfl
    have dz2 : (((a : Nat) : Int) == (s.size : Int)) = true := by simp; omega
    go_enter Tryz.func56, Tryz.ntmps56
    go_wp2_with fail
    all_goals (try (exfalso; omega))
    refine bodyPost_ret (v := .tuple #[.agg #[.bool false, .string (⟨#[]⟩)], .int .i64 (a : Nat), .bool false]) (by simp [results, Tryz.results56, go_sem]) rfl ⟨by rw [HF.out, rrdV_of (m := a) (by omega)]; rfl, bel2 _ _ _⟩
  · have hlt : a < s.size := by omega
    have hd := L_drop hlt
    obtain ⟨c, hc⟩ := name_it s[a]
    rw [hc.out] at hd
    have hck := hc.out
    have r0 : (0 : Int) ≤ (a : Int) := by omega
    have r1 : (a : Int) < (s.size : Int) := by omega
    by_cases h87 : c = 87
    · have e87 : ((c.toNat : Int) == 87) = true := by rw [h87]; rfl
      obtain ⟨a1, ha1⟩ : ∃ a1 : Nat, a1 = a + 1 := ⟨_, rfl⟩
      have e1 : (a : Int) + 1 = (a1 : Int) := by omega
      rw [← ha1, h87] at hd
      have HA1 := Lib.hid ha1
      clear ha1
      by_cases hz1 : s.size = a1
      · have HF : Hid (rdT ((L s).drop a) = (noT, 1, false)) := by unfold Hid; rw [hd, List.drop_of_length_le (by rw [L_length]; omega), rdT_w1]
        have dz1 : (((a1 : Nat) : Int) == (s.size : Int)) = true := by simp; omega
        clear hd h87
        go_enter Tryz.func56, Tryz.ntmps56
        go_wp2_with fail
        all_goals (try (exfalso; omega))
        refine bodyPost_ret (v := .tuple #[.agg #[.bool false, .string (⟨#[]⟩)], .int .i64 (a1 : Nat), .bool false]) (by simp [results, Tryz.results56, go_sem]) rfl ⟨by rw [HF.out, rrdV_of (m := a1) (by omega)]; rfl, bel2 _ _ _⟩
      · have hlt1 : a1 < s.size := by omega
        have hd1 := L_drop hlt1
        obtain ⟨d, hd'⟩ := name_it s[a1]
        rw [hd'.out] at hd1
        have hdk := hd'.out
        rw [hd1] at hd
        have dz1 : (((a1 : Nat) : Int) == (s.size : Int)) = false := by simp; omega
        have r2 : (0 : Int) ≤ (a1 : Int) := by omega
        have r3 : (a1 : Int) < (s.size : Int) := by omega
        by_cases h47 : d = 47
        · obtain ⟨a2, ha2⟩ : ∃ a2 : Nat, a2 = a1 + 1 := ⟨_, rfl⟩
          have e2 : (a1 : Int) + 1 = (a2 : Int) := by omega
          have HRES : Hid (rdT ((L s).drop a) = rdB true 2 ((L s).drop a2)) := by
            unfold Hid; rw [hd, rdT_w, if_pos h47, ha2]
          have e47 : ((d.toNat : Int) != 47) = false := by rw [h47]; rfl
          clear hd hd1 h87 h47 ha2
          go_enter Tryz.func56, Tryz.ntmps56
          by_cases hz : s.size = a2
          · have HF : Hid (rdT ((L s).drop a) = (noT, 2, false)) := by unfold Hid; rw [HRES.out, List.drop_of_length_le (by rw [L_length]; omega)]; rfl
            have dz : decide ((a2 : Int) = (s.size : Int)) = true := decide_eq_true (by omega)
            have dz2 : (((a2 : Nat) : Int) == (s.size : Int)) = true := by simp; omega
            go_wp2_with fail
            all_goals (try (exfalso; omega))
            refine bodyPost_ret (v := .tuple #[.agg #[.bool false, .string (⟨#[]⟩)], .int .i64 (a2 : Nat), .bool false]) (by simp [results, Tryz.results56, go_sem]) rfl ⟨by rw [HF.out, rrdV_of (m := a2) (by omega)]; rfl, bel2 _ _ _⟩
          · have hlt0 : a2 < s.size := by omega
            have hd := L_drop hlt0
            obtain ⟨q, hq⟩ := name_it s[a2]
            rw [hq.out] at hd
            have hqk := hq.out
            have HDR := Lib.hid hd
            have dz2 : (((a2 : Nat) : Int) == (s.size : Int)) = false := by simp; omega
            have p0 : (0 : Int) ≤ (a2 : Int) := by omega
            have p1 : (a2 : Int) < (s.size : Int) := by omega
            clear hd
            obtain ⟨f, hf⟩ : ∃ f : Nat, f = a2 + 1 := ⟨_, rfl⟩
            have e3 : ((a2 : Nat) : Int) + 1 = (f : Int) := by omega
            have HFv := Lib.hid hf
            clear hf
            by_cases h34 : q = 34
            · have e34 : ((q.toNat : Int) != 34) = false := by rw [h34]; rfl
              obtain ⟨n, hn⟩ := name_it (scT 0 ((L s).drop f)).1
              obtain ⟨ok, hok⟩ := name_it (scT 0 ((L s).drop f)).2
              have HR2 : Hid (rdT ((L s).drop a) = if ok = true then ((true, ((L s).drop f).take n), 2 + n + 2, true) else (noT, 2 + n + 1, false)) := by
                unfold Hid; rw [HRES.out, HDR.out, rdB_cons, if_pos h34, ← HFv.out, hn.out, hok.out]
              clear h34
              go_wp2_with fail
              all_goals (try (exfalso; omega))
              go_loop [1] (fun i => ∃ k : Nat, f ≤ k ∧ k ≤ s.size ∧ k ≤ f + 256 ∧ i = .int .i64 k ∧ Hid ((scT (k - f) ((L s).drop k)).1 + (k - f) = n) ∧ Hid ((scT (k - f) ((L s).drop k)).2 = ok)) (fun i => s.size - (intOf i).toNat)
              case atStart => exact ⟨f, Nat.le_refl _, by omega, by omega, rfl, by rw [Nat.sub_self]; exact hn, by rw [Nat.sub_self]; exact hok⟩
              case round =>
                obtain ⟨k, hfk, hk, hk256, rfl, h1, h2⟩ := hrel
                by_cases hlt : k < s.size
                · have q0 : (0 : Int) ≤ (k : Int) := by omega
                  have q1 : (k : Int) < (s.size : Int) := by omega
                  have q2 : (k : Int) ≤ (s.size : Int) := by omega
                  have qz : ((k : Int) == (s.size : Int)) = false := by simp; omega
                  have g1 := h1.out
                  have g2 := h2.out
                  rw [L_drop hlt] at g1 g2
                  obtain ⟨c, hc⟩ := name_it s[k]
                  rw [hc.out] at g1 g2
                  have hck := hc.out
                  unfold scT at g1 g2
                  by_cases hc34 : c = 34
                  · rw [if_pos hc34] at g1 g2
                    have hnk : n = k - f := by simp only at g1; omega
                    have hkk : Hid (ok = true) := g2.symm
                    have HF : Hid (rdT ((L s).drop a) = ((true, ((L s).drop f).take (k - f)), k + 1 - a, true)) := by
                      unfold Hid; rw [HR2.out, hkk.out, if_pos rfl, hnk]
                      have := HFv.out
                      congr 2; omega
                    have c34 : ((c.toNat : Int) != 34) = false := by rw [hc34]; rfl
                    have HX : Hid (s.extract f k = bs (((L s).drop f).take (k - f))) := by unfold Hid; rw [extract_bs, List.drop_take]
                    have q3 : (f : Int) ≤ (k : Int) := by omega
                    clear g1 g2 h1 h2 hc34 hnk hkk HR2 hn hok
                    obtain ⟨X, hX⟩ := name_it (((L s).drop f).take (k - f))
                    rw [hX.out] at HF HX
                    clear hX
                    go_wp2_with fail
                    all_goals (try (exfalso; omega))
                    refine bodyPost_ret (v := .tuple #[.agg #[.bool true, .string (bs X)], .int .i64 ((k : Int) + 1), .bool true]) (by simp [results, Tryz.results56, go_sem]; exact HX.out) rfl ⟨by rw [HF.out, rrdV_of (m := (k + 1)) (by omega)]; rfl, bel2 _ _ _⟩
                  · rw [if_neg hc34] at g1 g2
                    have c34 : ((c.toNat : Int) != 34) = true := by
                      rw [bne_iff_ne]; intro e; exact hc34 (UInt8.toNat_inj.1 (by show c.toNat = 34; omega))
                    by_cases hin : inT c = true ∧ k - f < 256
                    · rw [if_pos hin] at g1 g2
                      obtain ⟨hi1, hi2⟩ := hin
                      have hd256 : ((k : Int) - (f : Int) == 256) = false := by rw [beq_eq_false_iff_ne]; omega
                      have N1 : Hid ((scT (k + 1 - f) ((L s).drop (k + 1))).1 + (k + 1 - f) = n) := by
                        unfold Hid; rw [show k + 1 - f = k - f + 1 by omega]; simp only at g1; omega
                      have N2 : Hid ((scT (k + 1 - f) ((L s).drop (k + 1))).2 = ok) := by
                        unfold Hid; rw [show k + 1 - f = k - f + 1 by omega]; exact g2
                      clear g1 g2 h1 h2 hc34
                      go_wp2_with fail
                      all_goals (try (exfalso; omega))
                      refine (inside_any c _).mono ?_; rintro e w' ⟨rfl, rfl⟩
                      go_wp2_with fail
                      all_goals (try (exfalso; omega))
                      go_round
                      case rel => exact ⟨k + 1, by omega, by omega, by omega, by go_num, N1, N2⟩
                      case measure => simp [intOf]; omega
                    · rw [if_neg hin] at g1 g2
                      have hnk : n = k - f := by simp only at g1; omega
                      have hkk : Hid (ok = false) := g2.symm
                      have HF : Hid (rdT ((L s).drop a) = (noT, k - a, false)) := by
                        unfold Hid; rw [HR2.out, hkk.out, if_neg (by decide), hnk]
                        have := HFv.out
                        congr 2; omega
                      have h256 : inT c = false ∨ (inT c = true ∧ ((k : Int) - (f : Int) == 256) = true) := by
                        cases hic : inT c with
                        | false => exact Or.inl rfl
                        | true => exact Or.inr ⟨rfl, by rw [beq_iff_eq]; have : ¬ (k - f < 256) := fun h => hin ⟨hic, h⟩; omega⟩
                      clear g1 g2 h1 h2 hc34 hnk hkk HR2 hn hok hin
                      rcases h256 with hi1 | ⟨hi1, hd256⟩
                      all_goals
                        go_wp2_with fail
                        all_goals (try (exfalso; omega))
                        refine (inside_any c _).mono ?_; rintro e w' ⟨rfl, rfl⟩
                        go_wp2_with fail
                        all_goals (try (exfalso; omega))
                        refine bodyPost_ret (v := .tuple #[.agg #[.bool false, .string (⟨#[]⟩)], .int .i64 (k : Nat), .bool false]) (by simp [results, Tryz.results56, go_sem]) rfl ⟨by rw [HF.out, rrdV_of (m := k) (by omega)]; rfl, bel2 _ _ _⟩
                · obtain rfl : k = s.size := by omega
                  have qz : ((s.size : Int) == (s.size : Int)) = true := by simp
                  have g1 := h1.out
                  have g2 := h2.out
                  rw [L_drop_all] at g1 g2
                  unfold scT at g1 g2
                  have hnk : n = s.size - f := by simp only at g1; omega
                  have hkk : Hid (ok = false) := g2.symm
                  have HF : Hid (rdT ((L s).drop a) = (noT, s.size - a, false)) := by
                    unfold Hid; rw [HR2.out, hkk.out, if_neg (by decide), hnk]
                    have := HFv.out
                    congr 2; omega
                  clear g1 g2 h1 h2 hnk hkk HR2 hn hok
                  go_wp2_with fail
                  all_goals (try (exfalso; omega))
                  refine bodyPost_ret (v := .tuple #[.agg #[.bool false, .string (⟨#[]⟩)], .int .i64 (s.size : Nat), .bool false]) (by simp [results, Tryz.results56, go_sem]) rfl ⟨by rw [HF.out, rrdV_of (m := s.size) (by omega)]; rfl, bel2 _ _ _⟩
            · have HF : Hid (rdT ((L s).drop a) = (noT, 2, false)) := by unfold Hid; rw [HRES.out, HDR.out, rdB_cons, if_neg h34]
              have e34 : ((q.toNat : Int) != 34) = true := by
                rw [bne_iff_ne]; intro e; exact h34 (UInt8.toNat_inj.1 (by show q.toNat = 34; omega))
              clear h34
              go_wp2_with fail
              all_goals (try (exfalso; omega))
              refine bodyPost_ret (v := .tuple #[.agg #[.bool false, .string (⟨#[]⟩)], .int .i64 (a2 : Nat), .bool false]) (by simp [results, Tryz.results56, go_sem]) rfl ⟨by rw [HF.out, rrdV_of (m := a2) (by omega)]; rfl, bel2 _ _ _⟩
        · have HF : Hid (rdT ((L s).drop a) = (noT, 1, false)) := by
            unfold Hid; rw [hd, rdT_w, if_neg h47]
          have e47 : ((d.toNat : Int) != 47) = true := by
            rw [bne_iff_ne]; intro e; exact h47 (UInt8.toNat_inj.1 (by show d.toNat = 47; omega))
          clear hd hd1 h87 h47
          go_enter Tryz.func56, Tryz.ntmps56
          go_wp2_with fail
          all_goals (try (exfalso; omega))
          refine bodyPost_ret (v := .tuple #[.agg #[.bool false, .string (⟨#[]⟩)], .int .i64 (a1 : Nat), .bool false]) (by simp [results, Tryz.results56, go_sem]) rfl ⟨by rw [HF.out, rrdV_of (m := a1) (by omega)]; rfl, bel2 _ _ _⟩
    · have e87 : ((s[a].toNat : Int) == 87) = false := by
        rw [hc.out, beq_eq_false_iff_ne]; intro e; exact h87 (UInt8.toNat_inj.1 (by show c.toNat = 87; omega))
      have HRES : Hid (rdT ((L s).drop a) = rdB false 0 ((L s).drop a)) := by
        unfold Hid
        conv => lhs; rw [hd]
        rw [rdT_c h87, ← hd]
      clear hd h87 hck hc
      go_enter Tryz.func56, Tryz.ntmps56
      by_cases hz : s.size = a
      · omega
      · have hlt0 : a < s.size := by omega
        have hd := L_drop hlt0
        obtain ⟨q, hq⟩ := name_it s[a]
        rw [hq.out] at hd e87
        have hqk := hq.out
        have HDR := Lib.hid hd
        have dz2 : (((a : Nat) : Int) == (s.size : Int)) = false := by simp; omega
        have p0 : (0 : Int) ≤ (a : Int) := by omega
        have p1 : (a : Int) < (s.size : Int) := by omega
        clear hd
        obtain ⟨f, hf⟩ : ∃ f : Nat, f = a + 1 := ⟨_, rfl⟩
        have e3 : ((a : Nat) : Int) + 1 = (f : Int) := by omega
        have HFv := Lib.hid hf
        clear hf
        by_cases h34 : q = 34
        · have e34 : ((q.toNat : Int) != 34) = false := by rw [h34]; rfl
          obtain ⟨n, hn⟩ := name_it (scT 0 ((L s).drop f)).1
          obtain ⟨ok, hok⟩ := name_it (scT 0 ((L s).drop f)).2
          have HR2 : Hid (rdT ((L s).drop a) = if ok = true then ((false, ((L s).drop f).take n), 0 + n + 2, true) else (noT, 0 + n + 1, false)) := by
            unfold Hid; rw [HRES.out, HDR.out, rdB_cons, if_pos h34, ← HFv.out, hn.out, hok.out]
          clear h34
          go_wp2_with fail
          all_goals (try (exfalso; omega))
          go_loop [1] (fun i => ∃ k : Nat, f ≤ k ∧ k ≤ s.size ∧ k ≤ f + 256 ∧ i = .int .i64 k ∧ Hid ((scT (k - f) ((L s).drop k)).1 + (k - f) = n) ∧ Hid ((scT (k - f) ((L s).drop k)).2 = ok)) (fun i => s.size - (intOf i).toNat)
          case atStart => exact ⟨f, Nat.le_refl _, by omega, by omega, rfl, by rw [Nat.sub_self]; exact hn, by rw [Nat.sub_self]; exact hok⟩
          case round =>
            obtain ⟨k, hfk, hk, hk256, rfl, h1, h2⟩ := hrel
            by_cases hlt : k < s.size
            · have q0 : (0 : Int) ≤ (k : Int) := by omega
              have q1 : (k : Int) < (s.size : Int) := by omega
              have q2 : (k : Int) ≤ (s.size : Int) := by omega
              have qz : ((k : Int) == (s.size : Int)) = false := by simp; omega
              have g1 := h1.out
              have g2 := h2.out
              rw [L_drop hlt] at g1 g2
              obtain ⟨c, hc⟩ := name_it s[k]
              rw [hc.out] at g1 g2
              have hck := hc.out
              unfold scT at g1 g2
              by_cases hc34 : c = 34
              · rw [if_pos hc34] at g1 g2
                have hnk : n = k - f := by simp only at g1; omega
                have hkk : Hid (ok = true) := g2.symm
                have HF : Hid (rdT ((L s).drop a) = ((false, ((L s).drop f).take (k - f)), k + 1 - a, true)) := by
                  unfold Hid; rw [HR2.out, hkk.out, if_pos rfl, hnk]
                  have := HFv.out
                  congr 2; omega
                have c34 : ((c.toNat : Int) != 34) = false := by rw [hc34]; rfl
                have HX : Hid (s.extract f k = bs (((L s).drop f).take (k - f))) := by unfold Hid; rw [extract_bs, List.drop_take]
                have q3 : (f : Int) ≤ (k : Int) := by omega
                clear g1 g2 h1 h2 hc34 hnk hkk HR2 hn hok
                obtain ⟨X, hX⟩ := name_it (((L s).drop f).take (k - f))
                rw [hX.out] at HF HX
                clear hX
                go_wp2_with fail
                all_goals (try (exfalso; omega))
                refine bodyPost_ret (v := .tuple #[.agg #[.bool false, .string (bs X)], .int .i64 ((k : Int) + 1), .bool true]) (by simp [results, Tryz.results56, go_sem]; exact HX.out) rfl ⟨by rw [HF.out, rrdV_of (m := (k + 1)) (by omega)]; rfl, bel2 _ _ _⟩
              · rw [if_neg hc34] at g1 g2
                have c34 : ((c.toNat : Int) != 34) = true := by
                  rw [bne_iff_ne]; intro e; exact hc34 (UInt8.toNat_inj.1 (by show c.toNat = 34; omega))
                by_cases hin : inT c = true ∧ k - f < 256
                · rw [if_pos hin] at g1 g2
                  obtain ⟨hi1, hi2⟩ := hin
                  have hd256 : ((k : Int) - (f : Int) == 256) = false := by rw [beq_eq_false_iff_ne]; omega
                  have N1 : Hid ((scT (k + 1 - f) ((L s).drop (k + 1))).1 + (k + 1 - f) = n) := by
                    unfold Hid; rw [show k + 1 - f = k - f + 1 by omega]; simp only at g1; omega
                  have N2 : Hid ((scT (k + 1 - f) ((L s).drop (k + 1))).2 = ok) := by
                    unfold Hid; rw [show k + 1 - f = k - f + 1 by omega]; exact g2
                  clear g1 g2 h1 h2 hc34
                  go_wp2_with fail
                  all_goals (try (exfalso; omega))
                  refine (inside_any c _).mono ?_; rintro e w' ⟨rfl, rfl⟩
                  go_wp2_with fail
                  all_goals (try (exfalso; omega))
                  go_round
                  case rel => exact ⟨k + 1, by omega, by omega, by omega, by go_num, N1, N2⟩
                  case measure => simp [intOf]; omega
                · rw [if_neg hin] at g1 g2
                  have hnk : n = k - f := by simp only at g1; omega
                  have hkk : Hid (ok = false) := g2.symm
                  have HF : Hid (rdT ((L s).drop a) = (noT, k - a, false)) := by
                    unfold Hid; rw [HR2.out, hkk.out, if_neg (by decide), hnk]
                    have := HFv.out
                    congr 2; omega
                  have h256 : inT c = false ∨ (inT c = true ∧ ((k : Int) - (f : Int) == 256) = true) := by
                    cases hic : inT c with
                    | false => exact Or.inl rfl
                    | true => exact Or.inr ⟨rfl, by rw [beq_iff_eq]; have : ¬ (k - f < 256) := fun h => hin ⟨hic, h⟩; omega⟩
                  clear g1 g2 h1 h2 hc34 hnk hkk HR2 hn hok hin
                  rcases h256 with hi1 | ⟨hi1, hd256⟩
                  all_goals
                    go_wp2_with fail
                    all_goals (try (exfalso; omega))
                    refine (inside_any c _).mono ?_; rintro e w' ⟨rfl, rfl⟩
                    go_wp2_with fail
                    all_goals (try (exfalso; omega))
                    refine bodyPost_ret (v := .tuple #[.agg #[.bool false, .string (⟨#[]⟩)], .int .i64 (k : Nat), .bool false]) (by simp [results, Tryz.results56, go_sem]) rfl ⟨by rw [HF.out, rrdV_of (m := k) (by omega)]; rfl, bel2 _ _ _⟩
            · obtain rfl : k = s.size := by omega
              have qz : ((s.size : Int) == (s.size : Int)) = true := by simp
              have g1 := h1.out
              have g2 := h2.out
              rw [L_drop_all] at g1 g2
              unfold scT at g1 g2
              have hnk : n = s.size - f := by simp only at g1; omega
              have hkk : Hid (ok = false) := g2.symm
              have HF : Hid (rdT ((L s).drop a) = (noT, s.size - a, false)) := by
                unfold Hid; rw [HR2.out, hkk.out, if_neg (by decide), hnk]
                have := HFv.out
                congr 2; omega
              clear g1 g2 h1 h2 hnk hkk HR2 hn hok
              go_wp2_with fail
              all_goals (try (exfalso; omega))
              refine bodyPost_ret (v := .tuple #[.agg #[.bool false, .string (⟨#[]⟩)], .int .i64 (s.size : Nat), .bool false]) (by simp [results, Tryz.results56, go_sem]) rfl ⟨by rw [HF.out, rrdV_of (m := s.size) (by omega)]; rfl, bel2 _ _ _⟩
        · have HF : Hid (rdT ((L s).drop a) = (noT, 0, false)) := by unfold Hid; rw [HRES.out, HDR.out, rdB_cons, if_neg h34]
          have e34 : ((q.toNat : Int) != 34) = true := by
            rw [bne_iff_ne]; intro e; exact h34 (UInt8.toNat_inj.1 (by show q.toNat = 34; omega))
          clear h34
          go_wp2_with fail
          all_goals (try (exfalso; omega))
          refine bodyPost_ret (v := .tuple #[.agg #[.bool false, .string (⟨#[]⟩)], .int .i64 (a : Nat), .bool false]) (by simp [results, Tryz.results56, go_sem]) rfl ⟨by rw [HF.out, rrdV_of (m := a) (by omega)]; rfl, bel2 _ _ _⟩
end Go.Proofs.YtjalfddedikibaaGreatDoor
