/- Contract of tag's List. -/
import Derived.Test.YtjalfddedikibaaGreatDoorMc
import Derived.Test.YtjalfddedikibaaGreatDoorTagTJ
import Derived.Test.YtjalfddedikibaaGreatDoorTagCJ
namespace Go.Proofs.YtjalfddedikibaaGreatDoor
open Go Go.RowKit
set_option maxHeartbeats 8000000

theorem infoTg : (Tryz.prog.info? tT).map (fun i => (i.zero, i.size, i.bytes)) = some (some (.agg #[.bool false, .string ⟨#[]⟩]), 2, 24) := by kernel_rfl
/-- what a list of tags gives back: its row of tags beside the plain values -/
def ListRes (T : TypeId) (B : Nat) (r : LV) (e : Ending) (w' : World) : Prop := ∃ v, e = .returned (.tuple #[v, .bool r.star, .int .i64 (r.at_ : Nat), .int .i64 r.e]) ∧ w'.ownsRow B T 2 v r.ts.length (rowTg r.ts)
theorem listT_star {l : List UInt8} (h : trim l = [42]) : listT l = ⟨[], true, 0, 0⟩ := by unfold listT; rw [if_pos h]
theorem listT_bad {l : List UInt8} (h : trim l ≠ [42]) {p : Nat} (h1 : lsT true (l.length - (trimL l).length) [] (trim l) = .bad p) : listT l = ⟨[], false, p, 81⟩ := by unfold listT; rw [if_neg h, h1]
theorem listT_over {l : List UInt8} (h : trim l ≠ [42]) (h1 : lsT true (l.length - (trimL l).length) [] (trim l) = .over) : listT l = ⟨[], false, l.length, 81⟩ := by unfold listT; rw [if_neg h, h1]
theorem listT_good {l : List UInt8} (h : trim l ≠ [42]) {ts : List Tg} (h1 : lsT true (l.length - (trimL l).length) [] (trim l) = .good ts) : listT l = ⟨ts, false, 0, 0⟩ := by unfold listT; rw [if_neg h, h1]
theorem listRes_no {T : TypeId} {B : Nat} {w : World} {r : LV} {n : Nat} {b : Bool} {e : Int} (h : r = ⟨[], b, n, e⟩) : ListRes T B r (.returned (.tuple #[.slice none 0 0, .bool b, .int .i64 (n : Nat), .int .i64 e])) w := by
  subst h; exact ⟨_, rfl, World.ownsRow_nil ..⟩
theorem listRes_yes {T : TypeId} {B : Nat} {w : World} {r : LV} {ts : List Tg} {v : Value} (h : r = ⟨ts, false, 0, 0⟩) (ho : w.ownsRow B T 2 v ts.length (rowTg ts)) : ListRes T B r (.returned (.tuple #[v, .bool false, .int .i64 0, .int .i64 0])) w := by
  subst h; exact ⟨_, rfl, ho⟩
theorem idx_bl (c : UInt8) (w : World) : Calls Tryz.prog 65 #[.string ⟨#[32, 9]⟩, .int .u8 c.toNat] w fun e w' => ∃ n : Int, e = .returned (.int .i64 n) ∧ decide (0 ≤ n) = isBl c ∧ w = w' := by
  refine (Tryz.strings_IndexByte ⟨#[32, 9]⟩ c.toNat w).mono fun e w' ⟨h1, h2⟩ => ⟨_, h1, ?_, h2.symm⟩
  have : ((c.toNat : Int)).toNat.toUInt8 = c := by
    rw [Int.toNat_natCast]; exact UInt8.ofNat_toNat
  rw [this]
  exact index_bl c

set_option maxRecDepth 100000 in
theorem list_any (s : ByteArray) (w : World) (hs : s.size ≤ 16777216) :
    Calls Tryz.prog 43 #[.string s] w fun e w' => ListRes tT w.heap.size (listT (L s)) e w' ∧ Below w.heap.size w w' := by
  obtain ⟨i0, hi, hz0, hz1, hz2⟩ := info_parts infoTg
  have hsm : s.size ≤ maxLen := by unfold maxLen; omega
  have HSM := Lib.hid hsm
  have hlenL := L_length s
  have HLL := Lib.hid hlenL
  have hll : (trimL (L s)).length ≤ s.size := by unfold trimL; rw [← hlenL]; exact dropWhile_le _ _
  clear hsm
  by_cases hne : trim (L s) = []
  · obtain ⟨t1, t2⟩ := trim_none hne
    have HF : Hid (listT (L s) = ⟨[], false, s.size, 81⟩) := by
      unfold Hid
      rw [← HLL.out]
      refine listT_over (by rw [hne]; decide) ?_
      rw [hne, lsT_nil, if_pos rfl]
    have TR := Lib.hid (fun wx => strimR_any s wx HSM.out)
    have TL := Lib.hid (fun wx => strimL_any s wx)
    rw [t2, show bs [] = (⟨#[]⟩ : ByteArray) from rfl] at TR
    rw [t1, show bs [] = (⟨#[]⟩ : ByteArray) from rfl] at TL

    clear hne t1 t2 hlenL hll
    go_enter Tryz.func43, Tryz.ntmps43
    go_wp2_with fail
    go_step3
    go_wp2_with fail
    refine (TR.out _).mono ?_; rintro e w1 ⟨rfl, b1⟩
    have B1 := Lib.hid b1
    clear b1
    go_wp2_with fail
    refine (TL.out _).mono ?_; rintro e w2 ⟨rfl, b2⟩
    have B2 := Lib.hid (B1.out.trans (b2.mono B1.out.size))
    clear b2 B1
    go_wp2_with fail
    all_goals (try (exfalso; omega))
    go_step3
    have dz : decide ((s.size : Int) < 0) = false := decide_eq_false (by omega)
    go_wp2_with fail
    go_loopw [7, 8, 9, 10, 11, 12] (fun p l _ _ _ _ wr => p = .int .i64 s.size ∧ l = .slice none 0 0 ∧ Hid (Below w.heap.size w wr)) (fun _ _ _ _ _ _ _ => 0)
    case atStart => exact ⟨rfl, rfl, B2⟩
    case round =>
      obtain ⟨rfl, rfl, hD⟩ := hrel
      go_wp2_with fail
      all_goals (try (exfalso; omega))
      (try rw [Exit.noGoto_ret])
      refine bodyPost_ret (results4 rfl _ _ _) rfl ?_
      exact ⟨listRes_no HF.out, hD.out⟩
  · obtain ⟨h1, h2, h3, h4⟩ := trim_at hne
    have TR := Lib.hid (fun wx => strimR_any s wx HSM.out)
    have TL := Lib.hid (fun wx => strimL_any s wx)
    obtain ⟨x, hx⟩ := name_it (trimR (L s))
    obtain ⟨y, hy⟩ := name_it (trimL (L s))
    rw [hx.out] at h1 h2 h3 h4 TR
    rw [hy.out] at h1 h3 h4 TL hll
    obtain ⟨E, hE⟩ := name_it x.length
    obtain ⟨Y, hY⟩ := name_it y.length
    rw [hE.out] at h1 h2 h3 h4
    rw [hY.out] at h1 h3 h4 hll
    obtain ⟨D, hD⟩ := name_it (trim (L s))
    rw [hD.out] at h3 h4
    rw [hlenL] at h1 h2 h3 h4
    have sx : (bs x).size = E := by rw [size_bs, hE.out]
    have sy : (bs y).size = Y := by rw [size_bs, hY.out]
    obtain ⟨a, ha⟩ : ∃ a : Nat, a = s.size - Y := ⟨_, rfl⟩
    rw [← ha] at h1 h3 h4
    have ea : (s.size : Int) - (Y : Int) = (a : Int) := by omega
    have HX : Hid (s.extract a E = bs D) := by unfold Hid; rw [extract_bs, h3]
    have HA := Lib.hid ha
    have HDL := Lib.hid h4
    have q0 : (0 : Int) ≤ (a : Int) := by omega
    have q1 : (a : Int) ≤ (E : Int) := by omega
    have q2 : (E : Int) ≤ (s.size : Int) := by omega
    have dae : decide (a < E) = true := decide_eq_true h1
    have HEX : Hid (∀ k, a ≤ k → k ≤ E → s.extract k E = bs (D.drop (k - a))) := fun k hk _ => by
      rw [extract_bs, ← h3, List.drop_drop, show a + (k - a) = k by omega]
    have HGET : Hid (∀ k (h : k < s.size), a ≤ k → k < E → D.drop (k - a) = s[k] :: D.drop (k + 1 - a)) := fun k h hk hkE => by
      rw [← h3, List.drop_drop, List.drop_drop, show a + (k - a) = k by omega, show a + (k + 1 - a) = k + 1 by omega]
      have hlt : k < ((L s).take E).length := by rw [List.length_take, hlenL]; omega
      rw [List.drop_eq_getElem_cons hlt, List.getElem_take]; rfl
    clear h3 h4 ha hne hll
    by_cases hst : D = [42]
    · have HF : Hid (listT (L s) = ⟨[], true, 0, 0⟩) := listT_star (by rw [hD.out]; exact hst)
      have he : ((s.extract a E).toList == [42]) = true := by rw [HX.out, toList_L, L_bs, hst]; rfl
      clear hst
      go_enter Tryz.func43, Tryz.ntmps43
      go_wp2_with fail
      go_step3
      go_wp2_with fail
      refine (TR.out _).mono ?_; rintro e w1 ⟨rfl, b1⟩
      have B1 := Lib.hid b1
      clear b1
      go_wp2_with fail
      refine (TL.out _).mono ?_; rintro e w2 ⟨rfl, b2⟩
      have B2 := Lib.hid (B1.out.trans (b2.mono B1.out.size))
      clear b2 B1
      go_wp2_with fail
      all_goals (try (exfalso; omega))
      (try rw [Exit.noGoto_ret])
      refine bodyPost_ret (results4 rfl _ _ _) rfl ?_
      exact ⟨listRes_no HF.out, B2.out⟩
    · have he : ((s.extract a E).toList == [42]) = false := by rw [HX.out, toList_L, L_bs]; simpa using hst
      have HNS : Hid (trim (L s) ≠ [42]) := by unfold Hid; rw [hD.out]; exact hst
      have HR : Hid (lsT true ((L s).length - (trimL (L s)).length) [] (trim (L s)) = lsT true a [] D) := by
        unfold Hid; rw [hD.out, HLL.out, hy.out, hY.out, ← HA.out]
      obtain ⟨R, hR⟩ := name_it (lsT true a [] D)
      rw [hR.out] at HR
      have HR0 : Hid (lsT true a [] (D.drop (a - a)) = R) := by unfold Hid; rw [Nat.sub_self, List.drop_zero]; exact hR.out
      clear hst hR hD
      go_enter Tryz.func43, Tryz.ntmps43
      go_wp2_with fail
      go_step3
      go_wp2_with fail
      refine (TR.out _).mono ?_; rintro e w1 ⟨rfl, b1⟩
      have B1 := Lib.hid b1
      clear b1
      go_wp2_with fail
      refine (TL.out _).mono ?_; rintro e w2 ⟨rfl, b2⟩
      have B2 := Lib.hid (B1.out.trans (b2.mono B1.out.size))
      clear b2 B1
      go_wp2_with fail
      all_goals (try (exfalso; omega))
      go_step3
      go_wp2_with fail
      clear he HX TR TL hx hy hE hY HA HDL sx sy ea
      have OW0 : Hid (w2.ownsRow w.heap.size tT 2 (.slice none 0 0) 0 (rowTg [])) := World.ownsRow_nil ..
      go_loopw [7, 8, 9, 10, 11, 12] (fun p l fr _ _ _ wr => ∃ (k : Nat) (acc : List Tg) (f : Bool), a ≤ k ∧ k ≤ E ∧ acc.length ≤ k ∧ p = .int .i64 k ∧ fr = .bool f ∧ Hid (wr.ownsRow w.heap.size tT 2 l acc.length (rowTg acc)) ∧ Hid (lsT f k acc (D.drop (k - a)) = R) ∧ Hid (Below w.heap.size w wr)) (fun p _ _ _ _ _ _ => E - (intOf p).toNat)
      case atStart => exact ⟨a, [], true, Nat.le_refl _, by omega, Nat.zero_le _, rfl, rfl, OW0, HR0, B2⟩
      clear OW0 HR0 B2
      case round =>
        obtain ⟨k, acc, f, hak, hkE, hack, rfl, rfl, hO, hr, hB⟩ := hrel
        obtain ⟨wq, hwq⟩ : ∃ wq, wq = wr := ⟨wr, rfl⟩
        subst hwq
        obtain ⟨lp, lc, hlv⟩ := row_slice hO.out
        subst hlv
        by_cases hlt : k < E
        · have hks : k < s.size := by omega
          have hg := HGET.out k hks hak hlt
          have hr2 := hr.out
          rw [hg] at hr2
          obtain ⟨c, hc⟩ := name_it s[k]
          rw [hc.out] at hr2 hg
          have hck := hc.out
          have r0 : (0 : Int) ≤ (k : Int) := by omega
          have r1 : (k : Int) < (s.size : Int) := by omega
          have r2 : (k : Int) ≤ (E : Int) := by omega
          have dk : decide (k < E) = true := decide_eq_true hlt
          have HG := Lib.hid hg
          clear hg hr
          cases hbl : isBl c with
          | true =>
            rw [lsT_bl hbl] at hr2
            have HR2 := Lib.hid (show lsT f (k + 1) acc (D.drop (k + 1 - a)) = R from hr2)
            have HBL := Lib.hid hbl
            clear hr2 hbl HG
            go_wp2_with fail
            all_goals (try (exfalso; omega))
            refine (idx_bl c _).mono ?_; rintro e w' ⟨nx, rfl, hnx, rfl⟩
            rw [HBL.out] at hnx
            go_wp2_with fail
            all_goals (try (exfalso; omega))
            go_roundw
            case rel => exact ⟨k + 1, acc, f, by omega, by omega, by omega, by go_num, rfl, hO, HR2, hB⟩
            case measure => simp [intOf]; omega
          | false =>
            have HBL := Lib.hid hbl
            by_cases h44 : c = 44
            · rw [h44, lsT_comma] at hr2
              have HR2 := Lib.hid (show lsT true (k + 1) acc (D.drop (k + 1 - a)) = R from hr2)
              have e44 : ((c.toNat : Int) == 44) = true := by rw [h44]; rfl
              clear hr2 hbl HG h44
              go_wp2_with fail
              all_goals (try (exfalso; omega))
              refine (idx_bl c _).mono ?_; rintro e w' ⟨nx, rfl, hnx, rfl⟩
              rw [HBL.out] at hnx
              go_wp2_with fail
              all_goals (try (exfalso; omega))
              go_roundw
              case rel => exact ⟨k + 1, acc, true, by omega, by omega, by omega, by go_num, rfl, hO, HR2, hB⟩
              case measure => simp [intOf]; omega
            · have e44 : ((c.toNat : Int) == 44) = false := by
                rw [beq_eq_false_iff_ne]; intro e; exact h44 (UInt8.toNat_inj.1 (by show c.toNat = 44; omega))
              cases f with
              | false =>
                rw [lsT_bad hbl h44] at hr2
                have HF : Hid (listT (L s) = ⟨[], false, k, 81⟩) := listT_bad HNS.out (HR.out.trans hr2.symm)
                clear hr2 hbl HG h44
                go_wp2_with fail
                all_goals (try (exfalso; omega))
                refine (idx_bl c _).mono ?_; rintro e w' ⟨nx, rfl, hnx, rfl⟩
                rw [HBL.out] at hnx
                go_wp2_with fail
                all_goals (try (exfalso; omega))
                (try rw [Exit.noGoto_ret])
                refine bodyPost_ret (results4 rfl _ _ _) rfl ?_
                exact ⟨listRes_no HF.out, hB.out⟩
              | true =>
                have RD := Lib.hid (fun wx => read_any (bs (D.drop (k - a))) wx (by rw [size_bs, ← L_bs (D.drop (k - a)), L_length, ← HEX.out k hak (by omega), ByteArray.size_extract]; omega))
                rw [L_bs] at RD
                have hul : (D.drop (k - a)).length = E - k := by
                  have := congrArg ByteArray.size (HEX.out k hak (by omega))
                  rw [size_bs, ByteArray.size_extract] at this
                  omega
                have hrn := rdT_le (D.drop (k - a))
                rw [hul] at hrn
                have HXk := Lib.hid (HEX.out k hak (by omega))
                obtain ⟨rr, hrr⟩ := name_it (rdT (D.drop (k - a)))
                rw [hrr.out] at RD hrn
                rw [← HG.out] at hr2
                obtain ⟨⟨tw, tx⟩, n, ok⟩ := rr
                simp only at hrn
                have hrr2 := hrr.out
                unfold rdV encT at RD
                obtain ⟨X, hX⟩ := name_it (bs tx)
                simp only [hX.out] at RD
                cases ok with
                | false =>
                  by_cases hnl : n = E - k
                  · rw [HG.out] at hr2 hrr2 hul
                    rw [lsT_over hbl h44 hrr2 (by rw [hul]; exact hnl)] at hr2
                    have HF : Hid (listT (L s) = ⟨[], false, s.size, 81⟩) := by unfold Hid; rw [← HLL.out]; exact listT_over HNS.out (HR.out.trans hr2.symm)
                    have hsum : (E : Int) ≤ (k : Int) + (n : Int) := by omega
                    have dsum : decide ((E : Int) ≤ (k : Int) + (n : Int)) = true := decide_eq_true hsum
                    clear hr2 hbl HG h44 hrr2 hul hrr
                    go_wp2_with fail
                    all_goals (try (exfalso; omega))
                    refine (idx_bl c _).mono ?_; rintro e w' ⟨nx, rfl, hnx, rfl⟩
                    rw [HBL.out] at hnx
                    go_wp2_with fail
                    all_goals (try (exfalso; omega))
                    rw [HXk.out]
                    refine (RD.out _).mono ?_; rintro e w5 ⟨rfl, b5⟩
                    have B5 := Lib.hid (hB.out.trans (b5.mono hB.out.size))
                    clear b5
                    go_wp2_with fail
                    all_goals (try (exfalso; omega))
                    (try rw [Exit.noGoto_ret])
                    refine bodyPost_ret (results4 rfl _ _ _) rfl ?_
                    exact ⟨listRes_no HF.out, B5.out.alloc B5.out.size _⟩
                  · rw [HG.out] at hr2 hrr2 hul
                    rw [lsT_wrong hbl h44 hrr2 (by rw [hul]; exact hnl)] at hr2
                    have HF : Hid (listT (L s) = ⟨[], false, k + n, 81⟩) := listT_bad HNS.out (HR.out.trans hr2.symm)
                    have dsum : decide ((E : Int) ≤ (k : Int) + (n : Int)) = false := decide_eq_false (by omega)
                    have dsum2 : decide ((k : Int) + (n : Int) < (E : Int)) = true := decide_eq_true (by omega)
                    clear hr2 hbl HG h44 hrr2 hul hrr
                    go_wp2_with fail
                    all_goals (try (exfalso; omega))
                    refine (idx_bl c _).mono ?_; rintro e w' ⟨nx, rfl, hnx, rfl⟩
                    rw [HBL.out] at hnx
                    go_wp2_with fail
                    all_goals (try (exfalso; omega))
                    rw [HXk.out]
                    refine (RD.out _).mono ?_; rintro e w5 ⟨rfl, b5⟩
                    have B5 := Lib.hid (hB.out.trans (b5.mono hB.out.size))
                    clear b5
                    go_wp2_with fail
                    all_goals (try (exfalso; omega))
                    (try rw [Exit.noGoto_ret])
                    refine bodyPost_ret (results4 rfl _ _ _) rfl ?_
                    exact ⟨by have := listRes_no (T := tT) (B := w.heap.size) (w := w5.alloc (.cells #[.bool tw, .string X] tT)) HF.out; rw [Int.natCast_add] at this; exact this, B5.out.alloc B5.out.size _⟩
                | true =>
                  have hn2 := rdT_pos (D.drop (k - a)) (by rw [hrr2])
                  rw [hrr2] at hn2
                  simp only at hn2
                  rw [HG.out] at hr2 hrr2
                  rw [lsT_read hbl h44 hrr2, ← HG.out, List.drop_drop, show k - a + n = k + n - a by omega] at hr2
                  have HR2 := Lib.hid hr2
                  clear hr2 hbl HG h44 hrr2 hul hrr
                  go_wp2_with fail
                  all_goals (try (exfalso; omega))
                  refine (idx_bl c _).mono ?_; rintro e w' ⟨nx, rfl, hnx, rfl⟩
                  rw [HBL.out] at hnx
                  go_wp2_with fail
                  all_goals (try (exfalso; omega))
                  rw [HXk.out]
                  refine (RD.out _).mono ?_; rintro e w5 ⟨rfl, b5⟩
                  have B5 := Lib.hid (hB.out.trans (b5.mono hB.out.size))
                  have O5 := Lib.hid (row_next hO.out b5)
                  have O6 : Hid ((w5.alloc (.cells #[.bool tw, .string X] tT)).ownsRow w.heap.size tT 2 (.slice lp acc.length lc) acc.length (rowTg acc)) := O5.out.alloc _
                  have B6 : Hid (Below w.heap.size w (w5.alloc (.cells #[.bool tw, .string X] tT))) := B5.out.alloc B5.out.size _
                  clear b5 O5 B5
                  go_wp2_with (at_builtin; refine appendC rfl _ _ 83 rfl w.heap.size tT i0 (.agg #[.bool false, .string ⟨#[]⟩]) 2 24 Tryz.underlying83 hi hz0 hz1 hz2 rfl (by decide) O6.out rfl #[.bool tw, .string X] rfl (by intro u hu; simp only [List.mem_cons, List.not_mem_nil, or_false] at hu; rcases hu with rfl | rfl <;> rfl) rfl (by first | rfl | (simp; done)) ?_ ?_ ?_ ?_)
                  · unfold maxLen; omega
                  · omega
                  · exact B6.out.size
                  intro g7 c7 w7 hown7 b7
                  have O7 : Hid (w7.ownsRow w.heap.size tT 2 (.slice (some ⟨g7, 0, none⟩) (acc.length + 1) c7) (acc ++ [(tw, tx)]).length (rowTg (acc ++ [(tw, tx)]))) := by
                    unfold Hid; rw [rowTg_snoc, List.length_append, List.length_singleton, hX.out]; exact hown7
                  have B7 := Lib.hid (B6.out.trans b7)
                  have LA : Hid ((acc ++ [(tw, tx)]).length ≤ k + n) := by unfold Hid; rw [List.length_append, List.length_singleton]; omega
                  clear hown7 b7 O6 B6
                  go_wp2_with fail
                  all_goals (try (exfalso; omega))
                  go_roundw
                  case rel => exact ⟨k + n, _, false, by omega, by omega, LA.out, by first | rfl | (rw [Int.natCast_add]), rfl, O7, HR2, B7⟩
                  case measure => simp [intOf]; omega
        · obtain rfl : k = E := by omega
          have dk : decide (k < k) = false := decide_eq_false (by omega)
          have hul : D.drop (k - a) = [] := by
            have h5 := congrArg ByteArray.size (HEX.out k hak (Nat.le_refl _))
            rw [size_bs, ByteArray.size_extract] at h5
            exact List.eq_nil_of_length_eq_zero (by omega)
          have hr2 := hr.out
          rw [hul, lsT_nil] at hr2
          by_cases hac : acc = []
          · rw [if_pos hac] at hr2
            have HF : Hid (listT (L s) = ⟨[], false, s.size, 81⟩) := by unfold Hid; rw [← HLL.out]; exact listT_over HNS.out (HR.out.trans hr2.symm)
            subst hac
            clear hr2 hul hr
            go_wp2_with fail
            all_goals (try (exfalso; omega))
            (try rw [Exit.noGoto_ret])
            refine bodyPost_ret (results4 rfl _ _ _) rfl ?_
            exact ⟨listRes_no HF.out, hB.out⟩
          · rw [if_neg hac] at hr2
            have HF : Hid (listT (L s) = ⟨acc, false, 0, 0⟩) := listT_good HNS.out (HR.out.trans hr2.symm)
            have hal : 0 < acc.length := List.length_pos_iff.2 hac
            have dal : ((acc.length : Int) == 0) = false := by rw [beq_eq_false_iff_ne]; omega
            clear hr2 hul hr hac
            go_wp2_with fail
            all_goals (try (exfalso; omega))
            (try rw [Exit.noGoto_ret])
            refine bodyPost_ret (results4 rfl _ _ _) rfl ?_
            exact ⟨listRes_yes HF.out hO.out, hB.out⟩
end Go.Proofs.YtjalfddedikibaaGreatDoor
