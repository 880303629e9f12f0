/- Contracts of the document's ledger: is an entry right; the quoted text. -/
import Derived.Test.YtfgaiopkclogmaaGreatDoorLedgTJ
import Derived.Test.YtfgaiopkclogmaaGreatDoorMd
import Derived.Test.YtfgaiopkclogmaaGreatDoorLedgYJ
import Derived.Test.YtfgaiopkclogmaaGreatDoorMk
namespace Go.Proofs.YtfgaiopkclogmaaGreatDoor
open Go Go.RowKit
set_option maxHeartbeats 4000000

set_option maxRecDepth 100000 in
theorem rright_any (e : En) (w : World) (h1 : e.name.length ≤ 1073741824) (h2 : e.meth.length ≤ 1073741824) (h3 : e.tgt.length ≤ 1073741824) :
    Calls Tryz.prog 34 #[encE e] w fun x w' => x = .returned (.bool (rightE e)) ∧ Below w.heap.size w w' := by
  have n1 := fun wx => risname_any (bs e.name) wx (by rw [size_bs]; exact h1)
  have n2 := fun wx => ristoken_any (bs e.meth) wx (by rw [size_bs]; exact h2)
  rw [L_bs] at n1 n2
  have N1 := Lib.hid n1
  have N2 := Lib.hid n2
  clear n1 n2
  have z2 : (bs e.meth).size = e.meth.length := size_bs _
  have z3 : (bs e.tgt).size = e.tgt.length := size_bs _
  have hr : rightE e = (numsE e && ((e.name.all nameB && decide (1 ≤ e.name.length ∧ e.name.length ≤ 64)) && ((e.meth.all signB && decide (1 ≤ e.meth.length ∧ e.meth.length ≤ 24)) && (e.tgt.all tgtB && decide (1 ≤ e.tgt.length ∧ e.tgt.length ≤ 65536))))) := rfl
  obtain ⟨V, hV⟩ := name_it (rightE e)
  rw [hV.out] at hr ⊢
  have hL : e.tgt = L (bs e.tgt) := (L_bs _).symm
  have hne : (e.meth.all signB && decide (1 ≤ e.meth.length ∧ e.meth.length ≤ 24)) = ((e.meth.all signB && decide (e.meth ≠ [])) && decide (e.meth.length ≤ 24)) := by
    cases e.meth.all signB
    · rfl
    · rw [Bool.true_and, Bool.true_and, Bool.eq_iff_iff, Bool.and_eq_true, decide_eq_true_eq, decide_eq_true_eq, decide_eq_true_eq, ← List.length_pos_iff]; omega
  rw [hne] at hr
  obtain ⟨b1, hb1⟩ := name_it (e.name.all nameB && decide (1 ≤ e.name.length ∧ e.name.length ≤ 64))
  obtain ⟨b2, hb2⟩ := name_it (e.meth.all signB && decide (e.meth ≠ []))
  rw [hb1.out] at N1 hr
  rw [hb2.out] at N2 hr
  obtain ⟨A, hA⟩ := name_it (e.tgt.all tgtB)
  rw [hA.out] at hr
  have hA2 : Hid (((L (bs e.tgt)).drop 0).all tgtB = A) := by unfold Hid; rw [L_bs]; exact hA.out
  rw [← z2, ← z3] at hr
  rw [← z3] at h3
  rw [← z2] at h2
  clear hb1 hb2 hne hL hA h1 hV z2 z3
  unfold encE
  unfold numsE at hr
  obtain ⟨nm, hnm⟩ := name_it (bs e.name)
  obtain ⟨mt, hmt⟩ := name_it (bs e.meth)
  obtain ⟨tg, htg⟩ := name_it (bs e.tgt)
  rw [hnm.out] at N1 ⊢
  rw [hmt.out] at N2 h2 hr ⊢
  rw [htg.out] at h3 hA2 hr ⊢
  clear hnm hmt htg
  obtain ⟨l1, l2, l3, x1, x2, x3, x4, x5⟩ := e
  simp only [] at hr ⊢
  have HRR := Lib.hid hr
  clear hr
  have DB := Lib.hid ((Below.refl w.heap.size w).alloc (Nat.le_refl _) (.cells #[.string nm, .int .i64 x1, .int .i64 x2, .string mt, .string tg, .int .i64 x4, .int .i64 x5, .int .i64 x3] 36))
  go_enter Tryz.func34, Tryz.ntmps34
  go_wp2_with fail
  go_loop [3] (fun i => ∃ k : Nat, k ≤ tg.size ∧ i = .int .i64 k ∧ Hid (((L tg).drop k).all tgtB = A)) (fun i => tg.size - (intOf i).toNat)
  case atStart => exact ⟨0, Nat.zero_le _, rfl, hA2⟩
  clear hA2
  case round =>
    obtain ⟨k, hk, rfl, hr⟩ := hrel
    by_cases hlt : k < tg.size
    · have q0 : (0 : Int) ≤ (k : Int) := by omega
      have q1 : (k : Int) < (tg.size : Int) := by omega
      have hr2 := hr.out
      rw [L_drop hlt, List.all_cons] at hr2
      obtain ⟨c, hc⟩ := name_it tg[k]
      rw [hc.out] at hr2
      have hck := hc.out
      cases hb : tgtB c
      · rw [hb] at hr2
        have hf : Hid (V = false) := by unfold Hid; rw [HRR.out, ← hr2]; simp
        have hcc : (c.toNat : Int) < 33 ∨ (¬ (c.toNat : Int) < 33 ∧ 126 < (c.toNat : Int)) := by
          have := of_decide_eq_false hb; omega
        clear hr2 hr HRR hb
        rcases hcc with h | ⟨h, h'⟩
        all_goals
          go_wp2_with fail
          all_goals (try (exfalso; omega))
          go_ret
          exact ⟨ret_bool hf.out.symm, DB.out⟩
      · rw [hb, Bool.true_and] at hr2
        obtain ⟨b1', b2'⟩ := of_decide_eq_true (show decide (33 ≤ c.toNat ∧ c.toNat ≤ 126) = true from hb)
        have HR2 := Lib.hid hr2
        clear hr2 hr hb
        go_wp2_with fail
        all_goals (try (exfalso; omega))
        go_round
        case rel => exact ⟨k + 1, by omega, by go_num, HR2⟩
        case measure => simp [intOf]; omega
    · obtain rfl : k = tg.size := by omega
      rw [L_drop_all] at hr
      have hA2 : A = true := hr.out.symm
      have hrr := HRR.out
      rw [hA2, Bool.true_and] at hrr
      have HR3 := Lib.hid hrr
      clear hr HRR hA2 hrr
      go_wp2_with fail
      all_goals (try (exfalso; omega))
      refine (N1.out _).mono ?_; rintro x wa ⟨rfl, rfl⟩
      cases b1 with
      | false =>
        have hf : Hid (V = false) := by unfold Hid; rw [HR3.out]; simp
        clear HR3
        go_wp2_with fail
        go_ret
        exact ⟨ret_bool hf.out.symm, DB.out⟩
      | true =>
        have hn : (0 ≤ x1 ∧ 0 ≤ x2 ∧ 0 ≤ x5 ∧ 0 ≤ x3 ∧ 100 ≤ x4 ∧ x4 ≤ 599) ∨ (x1 < 0 ∨ (0 ≤ x1 ∧ x2 < 0) ∨ (0 ≤ x1 ∧ 0 ≤ x2 ∧ x5 < 0) ∨ (0 ≤ x1 ∧ 0 ≤ x2 ∧ 0 ≤ x5 ∧ x3 < 0) ∨ (0 ≤ x1 ∧ 0 ≤ x2 ∧ 0 ≤ x5 ∧ 0 ≤ x3 ∧ x4 < 100) ∨ (0 ≤ x1 ∧ 0 ≤ x2 ∧ 0 ≤ x5 ∧ 0 ≤ x3 ∧ 100 ≤ x4 ∧ 599 < x4)) := by omega
        rcases hn with hn | hn
        · have hrr := HR3.out
          rw [decide_eq_true hn, Bool.true_and, Bool.true_and] at hrr
          have HR4 := Lib.hid hrr
          obtain ⟨m1, m2, m3, m4, m5, m6⟩ := hn
          clear HR3 hrr
          go_wp2_with fail
          all_goals (try (exfalso; omega))
          refine (N2.out _).mono ?_; rintro x wb ⟨rfl, bb⟩
          have db := DB.out.trans (bb.mono DB.out.size)
          have c3 : wb.cell? ⟨w.heap.size, 3, none⟩ = some (.string mt) := (bb.cell (p := ⟨w.heap.size, 3, none⟩) (by show w.heap.size < (w.heap.push _).size; rw [Array.size_push]; omega)).trans (World.cell?_alloc_mark w #[.string nm, .int .i64 x1, .int .i64 x2, .string mt, .string tg, .int .i64 x4, .int .i64 x5, .int .i64 x3] 36 (0, 0) 3)
          have c4 : wb.cell? ⟨w.heap.size, 4, none⟩ = some (.string tg) := (bb.cell (p := ⟨w.heap.size, 4, none⟩) (by show w.heap.size < (w.heap.push _).size; rw [Array.size_push]; omega)).trans (World.cell?_alloc_mark w #[.string nm, .int .i64 x1, .int .i64 x2, .string mt, .string tg, .int .i64 x4, .int .i64 x5, .int .i64 x3] 36 (0, 0) 4)
          clear bb DB
          cases b2 with
          | false =>
            have hf : Hid (V = false) := by unfold Hid; rw [HR4.out]; simp
            clear HR4
            go_wp2_with fail
            go_ret
            exact ⟨ret_bool hf.out.symm, db⟩
          | true =>
            have hrr := HR4.out
            rw [Bool.true_and] at hrr
            have HR5 := Lib.hid hrr
            clear hrr HR4
            by_cases u1 : mt.size ≤ 24
            · by_cases u2 : 1 ≤ tg.size
              · by_cases u3 : tg.size ≤ 65536
                · have hf : Hid (V = true) := by unfold Hid; rw [HR5.out, decide_eq_true u1, decide_eq_true (⟨u2, u3⟩ : 1 ≤ tg.size ∧ tg.size ≤ 65536)]; rfl
                  clear HR5
                  go_wp2_with fail
                  all_goals (try (exfalso; omega))
                  go_ret
                  exact ⟨ret_bool (by rw [hf.out]; exact decide_eq_true (by omega)), db⟩
                · have hf : Hid (V = false) := by unfold Hid; rw [HR5.out, decide_eq_false (fun h => u3 h.2 : ¬ (1 ≤ tg.size ∧ tg.size ≤ 65536)), Bool.and_false]
                  clear HR5
                  go_wp2_with fail
                  all_goals (try (exfalso; omega))
                  go_ret
                  exact ⟨ret_bool (by rw [hf.out]; exact decide_eq_false (by omega)), db⟩
              · have hf : Hid (V = false) := by unfold Hid; rw [HR5.out, decide_eq_false (fun h => u2 h.1 : ¬ (1 ≤ tg.size ∧ tg.size ≤ 65536)), Bool.and_false]
                clear HR5
                go_wp2_with fail
                all_goals (try (exfalso; omega))
                go_ret
                exact ⟨ret_bool hf.out.symm, db⟩
            · have hf : Hid (V = false) := by unfold Hid; rw [HR5.out, decide_eq_false u1, Bool.false_and]
              clear HR5
              go_wp2_with fail
              all_goals (try (exfalso; omega))
              go_ret
              exact ⟨ret_bool hf.out.symm, db⟩
        · have hf : Hid (V = false) := by unfold Hid; rw [HR3.out, decide_eq_false (by omega), Bool.false_and]
          clear HR3
          rcases hn with h | ⟨h1, h⟩ | ⟨h1, h2, h⟩ | ⟨h1, h2, h3, h⟩ | ⟨h1, h2, h3, h4, h⟩ | ⟨h1, h2, h3, h4, h5, h⟩
          all_goals
            go_wp2_with fail
            all_goals (try (exfalso; omega))
            go_ret
            exact ⟨ret_bool hf.out.symm, DB.out⟩

theorem Byt.two {w : World} {b : Nat} {v : Value} {l : List UInt8} {c d : UInt8} (h : w.ownsRow b 5 1 v (l.length + 1 + 1) ((l.map fun c => Value.int .u8 (c.toNat : Int)) ++ [Value.int .u8 (d.toNat : Int)] ++ [Value.int .u8 (c.toNat : Int)])) : Byt w b v (l ++ [d] ++ [c]) := by
  unfold Byt
  rw [List.length_append, List.length_append, List.map_append, List.map_append]
  exact h
set_option maxRecDepth 100000 in
theorem rquote_any (s : ByteArray) (w : World) (hs : s.size ≤ 1073741824) (hf : (L s).all isFld = true) :
    Calls Tryz.prog 78 #[.string s] w fun e w' => e = .returned (.tuple #[.string (bs (quoteL (L s))), .int .i64 0]) ∧ Below w.heap.size w w' := by
  obtain ⟨i0, hi, hz0, hz1, hz2⟩ := info_parts infoByteL
  have HF := Lib.hid (risfield_any s w (by unfold maxLen; omega))
  rw [hf] at HF
  clear hf
  go_enter Tryz.func78, Tryz.ntmps78
  go_wp2_with fail
  refine HF.out.mono ?_; rintro e w1 ⟨rfl, rfl⟩
  go_wp2_with fail
  have Y0 : Hid (Byt (w.alloc (.cells #[.int .u8 34] 5)) w.heap.size (.slice (some ⟨w.heap.size, 0, none⟩) 1 1) ([34] ++ esc ((L s).take 0))) := World.ownsRow_lit w #[.int .u8 34] 1 (Nat.le_refl _) (by unfold maxLen; omega) rfl
  have d2 := (Below.refl w.heap.size w).alloc (Nat.le_refl _) (.cells #[.int .u8 34] 5)
  clear HF
  go_loopw [4, 5] (fun v i wr => ∃ k : Nat, k ≤ s.size ∧ i = .int .i64 k ∧ Hid (Byt wr w.heap.size v ([34] ++ esc ((L s).take k))) ∧ Below w.heap.size w wr) (fun _ i _ => s.size - (intOf i).toNat)
  case atStart => exact ⟨0, Nat.zero_le _, rfl, Y0, d2⟩
  clear Y0 d2
  case round =>
    obtain ⟨k, hk, rfl, hY, hbr⟩ := hrel
    obtain ⟨wq, hwq⟩ : ∃ wq, wq = wr := ⟨wr, rfl⟩
    subst hwq
    have hlen : ([34] ++ esc ((L s).take k)).length ≤ 2147483649 := by
      have h1 := esc_len ((L s).take k)
      have h2 := List.length_take_le k (L s)
      rw [List.length_append, List.length_singleton]
      omega
    obtain ⟨E, hE⟩ := name_it ([34] ++ esc ((L s).take k))
    rw [hE.out] at hY hlen
    obtain ⟨sp, cap, rfl⟩ := hY.out.slice
    by_cases hlt : k < s.size
    · have ht := Lib.hid (L_take hlt)
      obtain ⟨c, hc⟩ := name_it s[k]
      rw [hc.out] at ht
      have hck := hc.out
      have q0 : (0 : Int) ≤ (k : Int) := by omega
      have q1 : (k : Int) < (s.size : Int) := by omega
      by_cases hsp : c = 34 ∨ c = 92
      · have he : Hid ([34] ++ esc ((L s).take (k + 1)) = E ++ [92] ++ [c]) := by unfold Hid; rw [ht.out, esc_append, esc_special hsp, ← hE.out]; simp
        have hee : (((c.toNat : Int) == 34) = true) ∨ (((c.toNat : Int) == 34) = false ∧ ((c.toNat : Int) == 92) = true) := by
          rcases hsp with rfl | rfl
          · exact Or.inl rfl
          · exact Or.inr ⟨rfl, rfl⟩
        clear hsp
        rcases hee with e1 | ⟨e1, e2⟩
        all_goals
          go_wp2_with (at_builtin; refine append1 rfl _ _ 59 rfl w.heap.size 5 i0 (.int .u8 0) 1 Tryz.underlying59 hi hz0 hz1 hz2 rfl hY.out rfl (.int .u8 ((92 : UInt8).toNat : Int)) rfl rfl ?_ ?_ ?_ ?_)
          all_goals (try (exfalso; omega))
          · unfold maxLen; omega
          · omega
          · exact hbr.size
          intro ag acap w2 hag hown2 hb2
          have O2 := Lib.hid hown2
          have d2 := hbr.trans hb2
          clear hown2 hb2
          go_wp2_with (at_builtin; refine append1 rfl _ _ 59 rfl w.heap.size 5 i0 (.int .u8 0) 1 Tryz.underlying59 hi hz0 hz1 hz2 rfl O2.out rfl (.int .u8 (c.toNat : Int)) rfl rfl ?_ ?_ ?_ ?_)
          all_goals (try (exfalso; omega))
          · unfold maxLen; omega
          · omega
          · exact d2.size
          intro ag3 acap3 w3 hag3 hown3 hb3
          have Y3 : Hid (Byt w3 w.heap.size (.slice (some ⟨ag3, 0, none⟩) (E.length + 1 + 1) acap3) ([34] ++ esc ((L s).take (k + 1)))) := by
            unfold Hid; rw [he.out]; exact Byt.two (by rw [List.append_assoc]; exact hown3)
          have d3 := d2.trans hb3
          clear hown3 hb3 O2
          go_wp2_with fail
          go_roundw
          case rel => exact ⟨k + 1, by omega, by go_num, Y3, d3⟩
          case measure => simp [intOf]; omega
      · have he : Hid ([34] ++ esc ((L s).take (k + 1)) = E ++ [c]) := by unfold Hid; rw [ht.out, esc_append, esc_plain hsp, ← hE.out]; simp
        have e1 : ((c.toNat : Int) == 34) = false := by
          rw [beq_eq_false_iff_ne]; intro e; exact hsp (Or.inl (u8_of (k := 34) (by omega) e))
        have e2 : ((c.toNat : Int) == 92) = false := by
          rw [beq_eq_false_iff_ne]; intro e; exact hsp (Or.inr (u8_of (k := 92) (by omega) e))
        clear hsp
        go_wp2_with (at_builtin; refine append1 rfl _ _ 59 rfl w.heap.size 5 i0 (.int .u8 0) 1 Tryz.underlying59 hi hz0 hz1 hz2 rfl hY.out rfl (.int .u8 (c.toNat : Int)) rfl rfl ?_ ?_ ?_ ?_)
        all_goals (try (exfalso; omega))
        · unfold maxLen; omega
        · omega
        · exact hbr.size
        intro ag acap w2 hag hown2 hb2
        have Y3 : Hid (Byt w2 w.heap.size (.slice (some ⟨ag, 0, none⟩) (E.length + 1) acap) ([34] ++ esc ((L s).take (k + 1)))) := by
          unfold Hid; rw [he.out]; exact Byt.snoc (c := c) rfl hown2
        have d2 := hbr.trans hb2
        clear hown2 hb2
        go_wp2_with fail
        go_roundw
        case rel => exact ⟨k + 1, by omega, by go_num, Y3, d2⟩
        case measure => simp [intOf]; omega
    · obtain rfl : k = s.size := by omega
      rw [L_take_all] at hE
      go_wp2_with (at_builtin; refine append1 rfl _ _ 59 rfl w.heap.size 5 i0 (.int .u8 0) 1 Tryz.underlying59 hi hz0 hz1 hz2 rfl hY.out rfl (.int .u8 ((34 : UInt8).toNat : Int)) rfl rfl ?_ ?_ ?_ ?_)
      all_goals (try (exfalso; omega))
      · unfold maxLen; omega
      · omega
      · exact hbr.size
      intro ag acap w2 hag hown2 hb2
      have Y3 : Hid (Byt w2 w.heap.size (.slice (some ⟨ag, 0, none⟩) (E.length + 1) acap) (quoteL (L s))) := by
        unfold Hid quoteL; rw [hE.out]; exact Byt.snoc (c := 34) rfl hown2
      have d2 := hbr.trans hb2
      clear hown2 hb2
      have hconv := own_string (P := Tryz.prog) 59 9 5 Y3.out Tryz.underlying59 Tryz.underlying5 Tryz.underlying9
      go_wp2_with fail
      go_ret2
      exact ⟨rfl, d2⟩
end Go.Proofs.YtfgaiopkclogmaaGreatDoor
