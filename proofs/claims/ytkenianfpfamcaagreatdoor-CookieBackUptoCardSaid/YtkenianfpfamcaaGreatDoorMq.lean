/- Contract of cookie.Parse: the cookies that a client sent. Contracts of the document's cookie: the cookie that a piece is. Contract of the document's Parse: the cookies that a client sent. The law's CookieParses. -/
import Derived.Test.YtkenianfpfamcaaGreatDoorMp
import Derived.Deep.DeepCutAuto
import Derived.Test.YtkenianfpfamcaaGreatDoorMo
namespace Go.Proofs.YtkenianfpfamcaaGreatDoor
open Go Go.RowKit
set_option maxHeartbeats 4000000

set_option maxRecDepth 100000 in
theorem cparse_any (s : ByteArray) (w : World) (hE : EnvK w) (hs : s.size ≤ 1073741824) :
    Calls Tryz.prog 17 #[.string s] w fun e w' => (∃ v, e = .returned (.tuple #[v, .int .i64 (parseC (L s)).2]) ∧ CkRow w' w.heap.size v (parseC (L s)).1) ∧ Below w.heap.size w w' := by
  obtain ⟨i1, ci, cz0, cz1, cz2⟩ := info_parts infoCk
  have hall := splitC_each 59 (L s)
  have hlen := splitC_length 59 (L s)
  have hne := splitC_ne 59 (L s)
  rw [L_length] at hlen hall
  have HS := Lib.hid (splits_any s w hE hs)
  have HE := Lib.hid hE
  clear hE
  rw [parseC_run]
  obtain ⟨ps, hps⟩ := name_it (splitC 59 (L s))
  rw [hps.out] at hall hlen hne HS ⊢
  clear hps
  have HALL := Lib.hid hall
  have hpos : 0 < ps.length := List.length_pos_iff.2 hne
  clear hall hne
  go_enter Tryz.func17, Tryz.ntmps17
  go_wp2_with fail
  refine HS.out.mono ?_; rintro e w1 ⟨rfl, hc1, hb1⟩
  obtain ⟨g, hg⟩ : ∃ g, g = w.heap.size := ⟨_, rfl⟩
  rw [← hg] at hc1
  rw [← hg]
  have G1 : Hid (g < w1.heap.size) := hc1.lt
  have PC : Hid (∀ k (hk : k < ps.length), w1.cell? ⟨g, k, none⟩ = some (.string (bs ps[k]))) := by
    intro k hk
    rw [hc1.cell k (by rw [List.length_map]; exact hk), List.getElem_map]; rfl

  have B1 := Lib.hid hb1
  have E1 := Lib.hid (HE.out.next hb1)
  clear hb1 HS hc1 HE hg
  go_wp2_with fail
  have Q0 : Hid (w1.ownsRow w1.heap.size tCk 2 (.slice none 0 0) (runC (ps.take 0)).1.length (rowC (runC (ps.take 0)).1)) := World.ownsRow_nil ..
  go_loopw [4, 5, 13] (fun out nn i wr => ∃ k : Nat, k ≤ ps.length ∧ i = .int .i64 k ∧ nn = .int .i64 (runC (ps.take k)).2 ∧ Hid (wr.ownsRow w1.heap.size tCk 2 out (runC (ps.take k)).1.length (rowC (runC (ps.take k)).1)) ∧ Hid (Below w1.heap.size w1 wr)) (fun _ _ i _ => ps.length - (intOf i).toNat)
  case atStart => exact ⟨0, Nat.zero_le _, rfl, rfl, Q0, Below.refl _ _⟩
  clear Q0
  case round =>
    obtain ⟨k, hk, rfl, rfl, hQ, hB⟩ := hrel
    obtain ⟨wq, hwq⟩ : ∃ wq, wq = wr := ⟨wr, rfl⟩
    subst hwq
    by_cases hlt : k < ps.length
    · have C0 : wq.cell? ⟨g, k, none⟩ = some (.string (bs ps[k])) := by rw [hB.out.cell (p := ⟨g, k, none⟩) G1.out]; exact PC.out k hlt
      have hpl := HALL.out ps[k] (List.getElem_mem hlt)
      have HT : Hid (ps.take (k + 1) = ps.take k ++ [ps[k]]) := List.take_succ_eq_append_getElem hlt
      have HR := Lib.hid (runC_snoc (ps.take k) ps[k])
      rw [← HT.out] at HR
      have hlk := runC_le (ps.take k)
      rw [List.length_take] at hlk
      obtain ⟨p, hp⟩ := name_it ps[k]
      rw [hp.out] at C0 hpl HR
      obtain ⟨r, hr⟩ := name_it (runC (ps.take k))
      rw [hr.out] at hQ HR hlk ⊢
      obtain ⟨acc, cnt⟩ := r
      obtain ⟨r2, hr2⟩ := name_it (runC (ps.take (k + 1)))
      rw [hr2.out] at HR
      clear hp hr HT
      simp only at hQ HR hlk ⊢
      go_wp2_with fail
      all_goals (try (exfalso; omega))
      refine (strim_any (bs p) wq (by unfold maxLen; rw [size_bs]; omega)).mono ?_; rintro e w2 ⟨rfl, hb2⟩
      rw [L_bs]
      have htl := trim_le p
      have hem := empty_iff (trim p)
      cases hte : decide (trim p = []) with
      | true =>
        rw [hte] at hem
        have HN : Hid (r2 = (acc, cnt)) := by rw [HR.out, if_pos (of_decide_eq_true hte)]; rfl
        have Q2 := Lib.hid (row_kept hQ.out (fun g hg => hb2.block g (World.ownsRow.lt hQ.out g hg).2))
        have B2 := Lib.hid (hB.out.trans (hb2.mono hB.out.size))
        clear hb2 hQ hB C0
        clear HR hte htl
        obtain ⟨so, co, hout⟩ := row_slice Q2.out
        subst hout
        go_wp2_with fail
        go_roundw
        case rel => exact ⟨k + 1, by omega, by go_num, by rw [hr2.out, HN.out], by rw [hr2.out, HN.out]; exact Q2, B2⟩
        case measure => simp [intOf]; omega
      | false =>
        rw [hte] at hem
        have HN : Hid (r2 = match pairC p with | none => (acc, cnt + 1) | some c => (acc ++ [c], cnt)) := by rw [HR.out, if_neg (of_decide_eq_false hte)]; rfl
        have Q2 := Lib.hid (row_kept hQ.out (fun g hg => hb2.block g (World.ownsRow.lt hQ.out g hg).2))
        have B2 := Lib.hid (hB.out.trans (hb2.mono hB.out.size))
        have E2 := Lib.hid (E1.out.next B2.out)
        clear hb2 hQ hB C0
        clear HR hte htl
        go_wp2_with fail
        refine (pair_any (bs p) w2 E2.out (by rw [size_bs]; omega)).mono ?_; rintro e w3 ⟨rfl, hb3⟩
        rw [L_bs]
        have Q3 := Lib.hid (row_kept Q2.out (fun g hg => hb3.block g (World.ownsRow.lt Q2.out g hg).2))
        have B3 := Lib.hid (B2.out.trans (hb3.mono B2.out.size))
        clear hb3
        cases hpp : pairC p with
        | none =>
          rw [hpp] at HN
          unfold pairV
          have BA := (Below.refl w3.heap.size w3).alloc (Nat.le_refl _) (.cells #[.string ⟨#[]⟩, .string ⟨#[]⟩] tCk)
          have Q4 := Lib.hid (Q3.out.alloc (.cells #[.string ⟨#[]⟩, .string ⟨#[]⟩] tCk))
          have B4 := Lib.hid (B3.out.trans (BA.mono B3.out.size))
          obtain ⟨so, co, hout⟩ := row_slice Q4.out
          subst hout
          clear BA hpp
          go_wp2_with fail
          all_goals (try (exfalso; omega))
          go_roundw
          case rel => exact ⟨k + 1, by omega, by go_num, by rw [hr2.out, HN.out]; go_num, by rw [hr2.out, HN.out]; exact Q4, B4⟩
          case measure => simp [intOf]; omega
        | some c =>
          rw [hpp] at HN
          unfold pairV
          have BA := (Below.refl w3.heap.size w3).alloc (Nat.le_refl _) (.cells #[.string (bs c.1), .string (bs c.2)] tCk)
          have Q4 := Lib.hid (Q3.out.alloc (.cells #[.string (bs c.1), .string (bs c.2)] tCk))
          have KC := Lib.hid (CellsAt.first w3 [.string (bs c.1), .string (bs c.2)] tCk)
          have B4 := Lib.hid (B3.out.trans (BA.mono B3.out.size))
          have z0 := KC.out.at 0 _ rfl
          have z1 := KC.out.at 1 _ rfl
          obtain ⟨so, co, hout⟩ := row_slice Q4.out
          subst hout
          have hB4 := B4.out.size
          clear BA hpp
          go_upto_region 9 with fail
          generalize w3.alloc _ = w4 at *
          go_wp2_with (at_builtin; refine append2 (by rfl) _ _ tCks (by rfl) w1.heap.size tCk i1 (.agg #[.string ⟨#[]⟩, .string ⟨#[]⟩]) 32 Tryz.underlying22 ci cz0 cz1 cz2 rfl Q4.out (by rfl) (.string (bs c.1)) (.string (bs c.2)) rfl rfl (by rfl) (by unfold maxLen; omega) (by omega) hB4 ?_)
          intro g7 cap7 w7 hg7 hown7 hb7
          have Q7 : Hid (w7.ownsRow w1.heap.size tCk 2 (.slice (some ⟨g7, 0, none⟩) (acc.length + 1) cap7) (runC (ps.take (k + 1))).1.length (rowC (runC (ps.take (k + 1))).1)) := by
            rw [hr2.out, HN.out]
            show w7.ownsRow w1.heap.size tCk 2 _ (acc ++ [c]).length (rowC (acc ++ [c]))
            rw [List.length_append, List.length_singleton, rowC_snoc]; exact hown7
          have B7 := Lib.hid (B4.out.trans hb7)
          clear hown7 hb7
          go_wp2_with fail
          go_roundw
          case rel => exact ⟨k + 1, by omega, by go_num, by rw [hr2.out, HN.out], Q7, B7⟩
          case measure => simp [intOf]; omega
    · obtain rfl : k = ps.length := by omega
      rw [List.take_length] at hQ ⊢
      have Q9 := Lib.hid (World.ownsRow.mono hQ.out B1.out.size)
      have B9 := Lib.hid (B1.out.trans (hB.out.mono B1.out.size))
      obtain ⟨so, co, hout⟩ := row_slice hQ.out
      subst hout
      clear hQ hB
      go_wp2_with fail
      all_goals (try (exfalso; omega))
      go_ret2
      exact ⟨⟨_, rfl, Q9.out⟩, B9.out⟩
end Go.Proofs.YtkenianfpfamcaaGreatDoor
namespace Go.Proofs.YtkenianfpfamcaaGreatDoor
open Go Go.RowKit
set_option maxHeartbeats 4000000

set_option maxRecDepth 100000 in
theorem rone_any (s : ByteArray) (w : World) (hs : s.size ≤ 1073741824) :
    Calls Tryz.prog 57 #[.string s] w fun e w' => e = .returned (pairV (pairC (L s))) ∧ Below w.heap.size w w' := by
  have K1 := Lib.hid (CellsAt.first w [.string ⟨#[]⟩, .string ⟨#[]⟩] tRk)
  have B1 := Lib.hid (below_put2 (w := w) (cs := #[.string ⟨#[]⟩, .string ⟨#[]⟩]) (T := tRk))
  have HC := Lib.hid (rhalves_any s (w.alloc (.cells #[.string ⟨#[]⟩, .string ⟨#[]⟩] tRk)) (by unfold maxLen; omega))
  obtain ⟨V, hV⟩ := name_it (pairV (pairC (L s)))
  rw [hV.out]
  rw [pairC_eqn] at hV
  have hle := halves_le 61 (L s)
  rw [L_length] at hle
  unfold halvesV at HC
  obtain ⟨A, hA⟩ := name_it (halvesG 61 (L s)).1
  obtain ⟨Z, hZ⟩ := name_it (halvesG 61 (L s)).2
  obtain ⟨ok, hok⟩ := name_it (cutC 61 (L s)).isSome
  rw [hA.out, hZ.out, hok.out] at HC hV
  rw [hA.out, hZ.out] at hle
  clear hA hZ hok
  go_enter Tryz.func57, Tryz.ntmps57
  go_wp2_with fail
  refine HC.out.mono ?_; rintro e w2 ⟨rfl, hb2⟩
  have K2 := Lib.hid (K1.out.next hb2)
  have D2 := Lib.hid (B1.out.trans (hb2.mono B1.out.size))
  clear K1 B1 HC hb2
  go_wp2_with fail
  refine (rtrim_any (bs A) _ (by unfold maxLen; rw [size_bs]; omega)).mono ?_; rintro e w3 ⟨rfl, rfl⟩
  rw [L_bs]
  go_wp2_with fail
  refine (rtrim_any (bs Z) _ (by unfold maxLen; rw [size_bs]; omega)).mono ?_; rintro e w4 ⟨rfl, rfl⟩
  rw [L_bs]
  have hla := trim_le A
  have hlz := trim_le Z
  obtain ⟨a, ha⟩ := name_it (trim A)
  obtain ⟨z, hz⟩ := name_it (trim Z)
  rw [ha.out] at hV hla ⊢
  rw [hz.out] at hV hlz ⊢
  have hsa : (bs a).size ≤ 1073741824 := by rw [size_bs]; omega
  have hsz : (bs z).size ≤ 1073741824 := by rw [size_bs]; omega
  have B5 := below_put2 (w := w2) (cs := #[.string (bs a), .string (bs z)]) (T := tRk)
  have K5 := Lib.hid (K2.out.next B5)
  have D5 := Lib.hid (D2.out.trans (B5.mono D2.out.size))
  have F5 := Lib.hid (CellsAt.first w2 [.string (bs a), .string (bs z)] tRk)
  have HR := Lib.hid (rright_any (bs a) (bs z) (w2.alloc (.cells #[.string (bs a), .string (bs z)] tRk)) hsa hsz)
  rw [L_bs, L_bs] at HR
  have z0 := F5.out.at 0 _ rfl
  have z1 := F5.out.at 1 _ rfl
  have x0 := K5.out.at 0 _ rfl
  have x1 := K5.out.at 1 _ rfl
  have y0 := K5.out.free 0
  have y1 := K5.out.free 1
  have KE := Lib.hid (K5.out.put [.string ⟨#[]⟩, .string ⟨#[]⟩] rfl)
  have DE := Lib.hid (putAll_below [.string ⟨#[]⟩, .string ⟨#[]⟩] 0 _ _ D5.out (Nat.le_refl w.heap.size))
  unfold putAll putAll putAll at KE DE
  have e0 := KE.out.at 0 _ rfl
  have e1 := KE.out.at 1 _ rfl
  simp only [Nat.zero_add] at DE e0 e1
  clear K2 D2 B5 ha hz
  cases ok with
  | false =>
    have HV : Hid (pairV none = V) := by rw [← hV.out]; unfold Hid; rw [if_neg (fun h => by cases h.1)]
    clear hV HR
    go_wp2_with fail
    refine bodyPost_ret (v := pairV none) (by simp [results, Tryz.results57, go_sem, pairV, e0, e1]) rfl ?_
    exact ⟨by rw [HV.out], DE.out⟩
  | true =>
    clear KE DE e0 e1
    cases hr : rightC a z with
    | false =>
      have HV : Hid (pairV none = V) := by rw [← hV.out]; unfold Hid; rw [if_neg (fun h => by rw [hr] at h; cases h.2)]
      rw [hr] at HR
      clear hV hr
      go_wp2_with fail
      refine HR.out.mono ?_; rintro e w6 ⟨rfl, hb6⟩
      have K6 := Lib.hid (K5.out.next hb6)
      have D6 := Lib.hid (D5.out.trans (hb6.mono D5.out.size))
      clear K5 D5 F5 z0 z1 x0 x1 y0 y1 HR hb6
      have x0 := K6.out.at 0 _ rfl
      have x1 := K6.out.at 1 _ rfl
      have y0 := K6.out.free 0
      have y1 := K6.out.free 1
      have KE := Lib.hid (K6.out.put [.string ⟨#[]⟩, .string ⟨#[]⟩] rfl)
      have DE := Lib.hid (putAll_below [.string ⟨#[]⟩, .string ⟨#[]⟩] 0 _ _ D6.out (Nat.le_refl w.heap.size))
      unfold putAll putAll putAll at KE DE
      have e0 := KE.out.at 0 _ rfl
      have e1 := KE.out.at 1 _ rfl
      simp only [Nat.zero_add] at DE e0 e1
      go_wp2_with fail
      refine bodyPost_ret (v := pairV none) (by simp [results, Tryz.results57, go_sem, pairV, e0, e1]) rfl ?_
      exact ⟨by rw [HV.out], DE.out⟩
    | true =>
      have HV : Hid (pairV (some (a, z)) = V) := by rw [← hV.out]; unfold Hid; rw [if_pos ⟨rfl, hr⟩]
      rw [hr] at HR
      clear hV hr
      go_wp2_with fail
      refine HR.out.mono ?_; rintro e w6 ⟨rfl, hb6⟩
      have K6 := Lib.hid (K5.out.next hb6)
      have F6 := Lib.hid (F5.out.next hb6)
      have D6 := Lib.hid (D5.out.trans (hb6.mono D5.out.size))
      clear K5 D5 F5 z0 z1 x0 x1 y0 y1 HR hb6
      have z0 := F6.out.at 0 _ rfl
      have z1 := F6.out.at 1 _ rfl
      have x0 := K6.out.at 0 _ rfl
      have x1 := K6.out.at 1 _ rfl
      have y0 := K6.out.free 0
      have y1 := K6.out.free 1
      have KF := Lib.hid (K6.out.put [.string (bs a), .string (bs z)] rfl)
      have DF := Lib.hid (putAll_below [.string (bs a), .string (bs z)] 0 _ _ D6.out (Nat.le_refl w.heap.size))
      unfold putAll putAll putAll at KF DF
      have f0 := KF.out.at 0 _ rfl
      have f1 := KF.out.at 1 _ rfl
      simp only [Nat.zero_add] at DF f0 f1
      go_wp2_with fail
      refine bodyPost_ret (v := pairV (some (a, z))) (by simp [results, Tryz.results57, go_sem, pairV, f0, f1]) rfl ?_
      exact ⟨by rw [HV.out], DF.out⟩
end Go.Proofs.YtkenianfpfamcaaGreatDoor
namespace Go.Proofs.YtkenianfpfamcaaGreatDoor
open Go Go.RowKit
set_option maxHeartbeats 4000000

set_option maxRecDepth 100000 in
theorem rparseck_any (s : ByteArray) (w : World) (hs : s.size ≤ 1073741824) :
    Calls Tryz.prog 37 #[.string s] w fun e w' => (∃ v, e = .returned (.tuple #[v, .int .i64 (parseC (L s)).2]) ∧ RkRow w' w.heap.size v (parseC (L s)).1) ∧ Below w.heap.size w w' := by
  obtain ⟨i1, ci, cz0, cz1, cz2⟩ := info_parts infoRk
  have hall := splitC_each 59 (L s)
  have hlen := splitC_length 59 (L s)
  have hne := splitC_ne 59 (L s)
  rw [L_length] at hlen hall
  have HS : Hid (Calls Tryz.prog 56 #[.string s, .int .u8 59] w fun e w' => (∃ v, e = .returned v ∧ w'.ownsRow w.heap.size 9 1 v (splitC 59 (L s)).length ((splitC 59 (L s)).map strV)) ∧ Below w.heap.size w w') := rcut_any s 59 w hs
  rw [parseC_run]
  obtain ⟨ps, hps⟩ := name_it (splitC 59 (L s))
  rw [hps.out] at hall hlen hne HS ⊢
  clear hps
  have HALL := Lib.hid hall
  have hpos : 0 < ps.length := List.length_pos_iff.2 hne
  clear hall hne
  go_enter Tryz.func37, Tryz.ntmps37
  go_wp2_with fail
  refine HS.out.mono ?_; rintro e w1 ⟨⟨v, rfl, hrow⟩, hb1⟩
  obtain ⟨so0, co0, hout0⟩ := row_slice hrow
  subst hout0
  obtain ⟨g, rfl, hg1, hg2, hg3⟩ := row_str hrow 0 hpos
  have G1 : Hid (g < w1.heap.size) := hg2
  have PC : Hid (∀ k (hk : k < ps.length), w1.cell? ⟨g, k, none⟩ = some (.string (bs ps[k]))) := hg3

  have B1 := Lib.hid hb1
  clear hb1 HS hrow hg1 hg2 hg3
  go_wp2_with fail
  have Q0 : Hid (w1.ownsRow w1.heap.size tRk 2 (.slice none 0 0) (runC (ps.take 0)).1.length (rowC (runC (ps.take 0)).1)) := World.ownsRow_nil ..
  go_loopw [4, 5, 13] (fun out nn i wr => ∃ k : Nat, k ≤ ps.length ∧ i = .int .i64 k ∧ nn = .int .i64 (runC (ps.take k)).2 ∧ Hid (wr.ownsRow w1.heap.size tRk 2 out (runC (ps.take k)).1.length (rowC (runC (ps.take k)).1)) ∧ Hid (Below w1.heap.size w1 wr)) (fun _ _ i _ => ps.length - (intOf i).toNat)
  case atStart => exact ⟨0, Nat.zero_le _, rfl, rfl, Q0, Below.refl _ _⟩
  clear Q0
  case round =>
    obtain ⟨k, hk, rfl, rfl, hQ, hB⟩ := hrel
    obtain ⟨wq, hwq⟩ : ∃ wq, wq = wr := ⟨wr, rfl⟩
    subst hwq
    by_cases hlt : k < ps.length
    · have C0 : wq.cell? ⟨g, k, none⟩ = some (.string (bs ps[k])) := by rw [hB.out.cell (p := ⟨g, k, none⟩) G1.out]; exact PC.out k hlt
      have hpl := HALL.out ps[k] (List.getElem_mem hlt)
      have HT : Hid (ps.take (k + 1) = ps.take k ++ [ps[k]]) := List.take_succ_eq_append_getElem hlt
      have HR := Lib.hid (runC_snoc (ps.take k) ps[k])
      rw [← HT.out] at HR
      have hlk := runC_le (ps.take k)
      rw [List.length_take] at hlk
      obtain ⟨p, hp⟩ := name_it ps[k]
      rw [hp.out] at C0 hpl HR
      obtain ⟨r, hr⟩ := name_it (runC (ps.take k))
      rw [hr.out] at hQ HR hlk ⊢
      obtain ⟨acc, cnt⟩ := r
      obtain ⟨r2, hr2⟩ := name_it (runC (ps.take (k + 1)))
      rw [hr2.out] at HR
      clear hp hr HT
      simp only at hQ HR hlk ⊢
      go_wp2_with fail
      all_goals (try (exfalso; omega))
      refine (rtrim_any (bs p) wq (by unfold maxLen; rw [size_bs]; omega)).mono ?_; rintro e w2 ⟨rfl, rfl⟩
      rw [L_bs]
      have htl := trim_le p
      have hem := empty_iff (trim p)
      cases hte : decide (trim p = []) with
      | true =>
        rw [hte] at hem
        have HN : Hid (r2 = (acc, cnt)) := by rw [HR.out, if_pos (of_decide_eq_true hte)]; rfl
        clear HR hte htl
        obtain ⟨so, co, hout⟩ := row_slice hQ.out
        subst hout
        go_wp2_with fail
        go_roundw
        case rel => exact ⟨k + 1, by omega, by go_num, by rw [hr2.out, HN.out], by rw [hr2.out, HN.out]; exact hQ, hB⟩
        case measure => simp [intOf]; omega
      | false =>
        rw [hte] at hem
        have HN : Hid (r2 = match pairC p with | none => (acc, cnt + 1) | some c => (acc ++ [c], cnt)) := by rw [HR.out, if_neg (of_decide_eq_false hte)]; rfl
        clear HR hte htl
        go_wp2_with fail
        refine (rone_any (bs p) _ (by rw [size_bs]; omega)).mono ?_; rintro e w3 ⟨rfl, hb3⟩
        rw [L_bs]
        have Q3 := Lib.hid (row_kept hQ.out (fun g hg => hb3.block g (World.ownsRow.lt hQ.out g hg).2))
        have B3 := Lib.hid (hB.out.trans (hb3.mono hB.out.size))
        clear hb3
        cases hpp : pairC p with
        | none =>
          rw [hpp] at HN
          unfold pairV
          have BA := (Below.refl w3.heap.size w3).alloc (Nat.le_refl _) (.cells #[.string ⟨#[]⟩, .string ⟨#[]⟩] tRk)
          have Q4 := Lib.hid (Q3.out.alloc (.cells #[.string ⟨#[]⟩, .string ⟨#[]⟩] tRk))
          have B4 := Lib.hid (B3.out.trans (BA.mono B3.out.size))
          obtain ⟨so, co, hout⟩ := row_slice Q4.out
          subst hout
          clear BA hpp
          go_wp2_with fail
          all_goals (try (exfalso; omega))
          go_roundw
          case rel => exact ⟨k + 1, by omega, by go_num, by rw [hr2.out, HN.out]; go_num, by rw [hr2.out, HN.out]; exact Q4, B4⟩
          case measure => simp [intOf]; omega
        | some c =>
          rw [hpp] at HN
          unfold pairV
          have BA := (Below.refl w3.heap.size w3).alloc (Nat.le_refl _) (.cells #[.string (bs c.1), .string (bs c.2)] tRk)
          have Q4 := Lib.hid (Q3.out.alloc (.cells #[.string (bs c.1), .string (bs c.2)] tRk))
          have KC := Lib.hid (CellsAt.first w3 [.string (bs c.1), .string (bs c.2)] tRk)
          have B4 := Lib.hid (B3.out.trans (BA.mono B3.out.size))
          have z0 := KC.out.at 0 _ rfl
          have z1 := KC.out.at 1 _ rfl
          obtain ⟨so, co, hout⟩ := row_slice Q4.out
          subst hout
          have hB4 := B4.out.size
          clear BA hpp
          go_upto_region 9 with fail
          generalize w3.alloc _ = w4 at *
          go_wp2_with (at_builtin; refine append2 (by rfl) _ _ tRks (by rfl) w1.heap.size tRk i1 (.agg #[.string ⟨#[]⟩, .string ⟨#[]⟩]) 32 Tryz.underlying31 ci cz0 cz1 cz2 rfl Q4.out (by rfl) (.string (bs c.1)) (.string (bs c.2)) rfl rfl (by rfl) (by unfold maxLen; omega) (by omega) hB4 ?_)
          intro g7 cap7 w7 hg7 hown7 hb7
          have Q7 : Hid (w7.ownsRow w1.heap.size tRk 2 (.slice (some ⟨g7, 0, none⟩) (acc.length + 1) cap7) (runC (ps.take (k + 1))).1.length (rowC (runC (ps.take (k + 1))).1)) := by
            rw [hr2.out, HN.out]
            show w7.ownsRow w1.heap.size tRk 2 _ (acc ++ [c]).length (rowC (acc ++ [c]))
            rw [List.length_append, List.length_singleton, rowC_snoc]; exact hown7
          have B7 := Lib.hid (B4.out.trans hb7)
          clear hown7 hb7
          go_wp2_with fail
          go_roundw
          case rel => exact ⟨k + 1, by omega, by go_num, by rw [hr2.out, HN.out], Q7, B7⟩
          case measure => simp [intOf]; omega
    · obtain rfl : k = ps.length := by omega
      rw [List.take_length] at hQ ⊢
      have Q9 := Lib.hid (World.ownsRow.mono hQ.out B1.out.size)
      have B9 := Lib.hid (B1.out.trans (hB.out.mono B1.out.size))
      obtain ⟨so, co, hout⟩ := row_slice hQ.out
      subst hout
      clear hQ hB
      go_wp2_with fail
      all_goals (try (exfalso; omega))
      go_ret2
      exact ⟨⟨_, rfl, Q9.out⟩, B9.out⟩
end Go.Proofs.YtkenianfpfamcaaGreatDoor
namespace Go.Proofs.YtkenianfpfamcaaGreatDoor
open Go Go.RowKit
set_option maxHeartbeats 4000000

theorem int_eq_self (n : Int) : (n == n) = true := beq_self_eq_true n
set_option maxRecDepth 100000 in
theorem lawCParses_any (s : ByteArray) (w : World) (hE : EnvK w) (hs : s.size ≤ 1048576) :
    Calls Tryz.prog 10 #[.string s] w fun e w' => e = .returned (.bool true) ∧ Below w.heap.size w w' := by
  have HA := Lib.hid (awake_any w hE)
  have HE := Lib.hid hE
  have hlen := splitC_length 59 (L s)
  rw [L_length] at hlen
  have hle := runC_le (splitC 59 (L s))
  rw [← parseC_run] at hle
  have CP := Lib.hid (fun wx (h : EnvK wx) => cparse_any s wx h (by omega))
  have RP := Lib.hid (fun wx => rparseck_any s wx (by omega))
  obtain ⟨r, hr⟩ := name_it (parseC (L s))
  rw [hr.out] at hle CP RP
  obtain ⟨l, n⟩ := r
  simp only at hle CP RP
  have HL : Hid (l.length ≤ 1073741825) := by unfold Hid; omega
  clear hr hE hle hlen
  go_enter Tryz.func10, Tryz.ntmps10
  go_wp2_with fail
  refine HA.out.mono ?_; rintro e w1 ⟨rfl, hb1⟩
  have E1 := Lib.hid (HE.out.next hb1)
  have B1 := Lib.hid hb1
  clear HA HE hb1
  go_wp2_with fail
  refine (CP.out _ E1.out).mono ?_; rintro e w2 ⟨⟨v, rfl, hrow⟩, hb2⟩
  have hrow : w2.ownsRow w1.heap.size tCk 2 v l.length (rowC l) := hrow
  obtain ⟨so, co, hout⟩ := row_slice hrow
  subst hout
  have C2 := Lib.hid (row_cks hrow)
  have B2 := Lib.hid (B1.out.trans (hb2.mono B1.out.size))
  clear CP E1 B1 hrow hb2
  go_wp2_with fail
  refine (RP.out _).mono ?_; rintro e w3 ⟨⟨v, rfl, hrow⟩, hb3⟩
  have hrow : w3.ownsRow w2.heap.size tRk 2 v l.length (rowC l) := hrow
  obtain ⟨so2, co2, hout⟩ := row_slice hrow
  subst hout
  have D3 := Lib.hid (row_cks hrow)
  have C3 := Lib.hid (C2.out.next hb3)
  have B3 := Lib.hid (B2.out.trans (hb3.mono B2.out.size))
  clear RP C2 B2 hrow hb3
  have SM := Lib.hid (same_self w3 so so2 co co2 l C3.out D3.out HL.out)
  go_wp2_with fail
  refine SM.out.mono ?_; rintro e w4 ⟨rfl, hb4⟩
  go_wp2_with fail
  all_goals (try (exfalso; omega))
  go_ret
  exact ⟨ret_bool (by simp), B3.out.trans (hb4.mono B3.out.size)⟩
end Go.Proofs.YtkenianfpfamcaaGreatDoor
