/- The document's count. -/
import Derived.Test.YtfgaiopkclogmaaGreatDoorMg
import Derived.BigQuiet
namespace Go.Proofs.YtfgaiopkclogmaaGreatDoor
open Go Go.RowKit
set_option maxHeartbeats 8000000

abbrev tTal : TypeId := 118
theorem infoTal : (Tryz.prog.info? 118).map (fun i => (i.zero, i.size, i.bytes)) = some (some (.agg #[.string ⟨#[]⟩, .int .i64 0]), 2, 24) := by kernel_rfl

set_option maxRecDepth 100000 in
theorem count_any (va : Value) (xs : List Tx) (B : Nat) (w : World) (hA : w.ownsRow B 9 1 va xs.length (strsT xs)) (hl : xs.length ≤ 1073741824) :
    Calls Tryz.prog 51 #[va] w fun e w' => (∃ v, e = .returned v ∧ w'.ownsRow w.heap.size tTal 2 v (cntF xs).length (rowT (cntF xs))) ∧ Below w.heap.size w w' := by
  obtain ⟨i0, hi, hz0, hz1, hz2⟩ := info_parts infoTal
  have ROW := Lib.hid hA
  clear hA
  obtain ⟨sp, cap, hv2⟩ := row_slice ROW.out
  subst hv2
  go_enter Tryz.func51, Tryz.ntmps51
  go_wp2_with fail
  go_loopw [3, 4] (fun out i wr => ∃ k : Nat, k ≤ xs.length ∧ i = .int .i64 k ∧ Hid (wr.ownsRow w.heap.size tTal 2 out (cntF (xs.take k)).length (rowT (cntF (xs.take k)))) ∧ Hid (Below w.heap.size w wr)) (fun _ i _ => xs.length - (intOf i).toNat)
  case atStart => exact ⟨0, Nat.zero_le _, rfl, World.ownsRow_lit w #[] 0 (Nat.le_refl _) (by decide) rfl, (Below.refl _ _).alloc (Nat.le_refl _) _⟩
  case round =>
    obtain ⟨k, hk, rfl, hO, hbr⟩ := hrel
    obtain ⟨wq, hwq⟩ : ∃ wq, wq = wr := ⟨wr, rfl⟩
    subst hwq
    obtain ⟨so, co, hout⟩ := row_slice hO.out
    subst hout
    by_cases hlt : k < xs.length
    · have q0 : (0 : Int) ≤ (k : Int) := by omega
      have q1 : (k : Int) < (xs.length : Int) := by omega
      obtain ⟨g, rfl⟩ : ∃ g, sp = some ⟨g, 0, none⟩ := by
        rcases ROW.out.2 with ⟨_, h0⟩ | ⟨g, cap', cur, h, _⟩
        · omega
        · injection h with h _ _; exact ⟨g, h⟩
      have HG := Lib.hid (World.ownsRow.lt ROW.out g rfl).2
      have hcx : Hid (w.cell? ⟨g, k, none⟩ = some (.string (bs xs[k]))) := (ROW.out.cellAt k (by omega)).trans (strsT_get xs k hlt)
      have HS : Hid (cntF (xs.take (k + 1)) = bump (cntF (xs.take k)) xs[k]) := by unfold Hid; rw [List.take_succ_eq_append_getElem hlt, cntF_snoc]
      have HND := Lib.hid (cnt_nodup (xs.take k))
      have HBD := Lib.hid (cnt_bd (xs.take k))
      have hcl : (cntF (xs.take k)).length ≤ xs.length := Nat.le_trans (cntF_len _) (by rw [List.length_take]; omega)
      have hxl : ((xs.take k).length : Int) ≤ 1073741824 := by rw [List.length_take]; omega
      obtain ⟨c, hc⟩ := name_it (cntF (xs.take k))
      rw [hc.out] at hO HS HND HBD hcl ⊢
      obtain ⟨m, hm⟩ := name_it ((xs.take k).length : Int)
      rw [hm.out] at HBD hxl
      obtain ⟨x, hx⟩ := name_it xs[k]
      rw [hx.out] at hcx HS
      clear hc hm hx
      go_wp2_with fail
      all_goals (try (exfalso; omega))
      go_loopw [5, 6] (fun fd j wi => ∃ n : Nat, n ≤ c.length ∧ j = .int .i64 n ∧ fd = .bool (decide (x ∈ keysF (c.take n))) ∧ Hid (wi.ownsRow w.heap.size tTal 2 (.slice so c.length co) c.length (rowT (midB x c n))) ∧ Hid (Below w.heap.size w wi)) (fun _ j _ => c.length - (intOf j).toNat)
      case atStart =>
        refine ⟨0, Nat.zero_le _, rfl, rfl, ?_, hbr⟩
        exact hO
      clear hO hbr
      case round =>
        obtain ⟨n, hn, rfl, rfl, hOi, hbi⟩ := hrel
        obtain ⟨wp, hwp⟩ : ∃ wp, wp = wr := ⟨wr, rfl⟩
        subst hwp
        have cx : wp.cell? ⟨g, k, none⟩ = some (.string (bs x)) := (hbi.out.cell (p := ⟨g, k, none⟩) HG.out).trans hcx.out
        by_cases hln : n < c.length
        · have p0 : (0 : Int) ≤ (n : Int) := by omega
          have p1 : (n : Int) < (c.length : Int) := by omega
          obtain ⟨g2, rfl⟩ : ∃ g2, so = some ⟨g2, 0, none⟩ := by
            rcases hOi.out.2 with ⟨_, h0⟩ | ⟨g, cap', cur, h, _⟩
            · omega
            · injection h with h _ _; exact ⟨g, h⟩
          have hgl := World.ownsRow.lt hOi.out g2 rfl
          have hml := midB_len x c n
          have hget : (midB x c n)[n]'(by omega) = c[n] := by
            have := midB_get x c n hln
            rw [List.getElem?_eq_getElem (by omega)] at this
            exact Option.some.inj this
          have hrg := rowT_get (midB x c n) n (by omega)
          rw [hget] at hrg
          have hst := rowT_set (midB x c n) n (by omega) (c[n].2 + 1)
          rw [hget] at hst
          have hsucc := midB_succ x c n hln
          have hmem := mem_take_succ x c n hln
          have hnb := HBD.out c[n] (List.getElem_mem hln)
          have d0 : wp.cell? ⟨g2, n * 2, none⟩ = some (.string (bs c[n].1)) := (hOi.out.cellAt (n * 2) (by omega)).trans hrg.1
          have d1 : wp.cell? ⟨g2, n * 2 + 1, none⟩ = some (.int .i64 c[n].2) := (hOi.out.cellAt (n * 2 + 1) (by omega)).trans hrg.2
          have z1 : wp.frozen? ⟨g2, n * 2 + 1, none⟩ = false := hOi.out.frozenAt _
          have STO := fun nq => (row_kept (w' := wp.drewN nq) hOi.out (fun _ _ => rfl)).stored (n * 2 + 1) (.int .i64 (c[n].2 + 1))
          rw [hst] at STO
          obtain ⟨y, hy⟩ := name_it c[n].1
          obtain ⟨q, hq⟩ := name_it c[n].2
          rw [hy.out] at d0 hsucc hmem STO
          rw [hq.out] at d1 hsucc hnb STO
          obtain ⟨hnb1, hnb2⟩ := hnb
          have HSU := Lib.hid hsucc
          have HME := Lib.hid hmem
          have HST := Lib.hid STO
          have HGE : Hid (w.heap.size ≤ g2) := hgl.1
          obtain ⟨fd, hfd⟩ := name_it (decide (x ∈ keysF (c.take n)))
          rw [hfd.out] at HME ⊢
          clear STO hsucc hmem hrg hst hget hml hgl hy hq hfd
          have hxb : ((bs y).toList == (bs x).toList) = decide (y = x) := str_eq _ _
          by_cases hxy : y = x
          · rw [decide_eq_true hxy] at hxb
            have HXY := Lib.hid hxy
            clear hxy
            go_wp2_with fail
            go_quiet (fail)
            go_wp2_with fail
            go_roundw
            case rel =>
              refine ⟨n + 1, by omega, by go_num, ?_, ?_, (below_drewN hbi.out _).setCell HGE.out _⟩
              · rw [HME.out, decide_eq_true HXY.out, Bool.or_true]
              · unfold Hid; rw [HSU.out, if_pos HXY.out]; exact (HST.out _).1
            case measure => simp [intOf]; omega
          · rw [decide_eq_false hxy] at hxb
            have HXY := Lib.hid hxy
            clear hxy
            go_wp2_with fail
            go_quiet (fail)
            go_wp2_with fail
            go_roundw
            case rel =>
              refine ⟨n + 1, by omega, by go_num, ?_, ?_, below_drewN hbi.out _⟩
              · rw [HME.out, decide_eq_false HXY.out, Bool.or_false]
              · unfold Hid; rw [HSU.out, if_neg HXY.out]; exact row_kept hOi.out (fun _ _ => rfl)
            case measure => simp [intOf]; omega
        · obtain rfl : n = c.length := by omega
          have hO2 := hOi.out
          rw [show midB x c c.length = bmp x c from by unfold midB; rw [List.take_length, List.drop_length, List.append_nil]] at hO2
          have HBU := Lib.hid (bump_bmp x c HND.out)
          rw [List.take_length]
          by_cases hin : x ∈ keysF c
          · rw [decide_eq_true hin]
            have O9 : Hid (wp.ownsRow w.heap.size tTal 2 (.slice so c.length co) (cntF (xs.take (k + 1))).length (rowT (cntF (xs.take (k + 1))))) := by
              unfold Hid; rw [HS.out, HBU.out, if_pos hin, bmp_len]; exact hO2
            clear hO2 hin
            go_wp2_with fail
            go_roundw
            case rel => exact ⟨k + 1, by omega, by go_num, O9, hbi⟩
            case measure => simp [intOf]; omega
          · rw [decide_eq_false hin]
            rw [bmp_not x c hin] at hO2
            have HIN := Lib.hid hin
            have O8 := Lib.hid hO2
            clear hO2 hin hOi
            go_wp2_with (at_builtin; refine append2 rfl _ _ 57 rfl w.heap.size tTal i0 (.agg #[.string ⟨#[]⟩, .int .i64 0]) 24 Tryz.underlying57 hi hz0 hz1 hz2 rfl O8.out rfl (.string (bs x)) (.int .i64 1) rfl rfl rfl rfl (by unfold maxLen; omega) (by omega) hbi.out.size ?_)
            intro g7 cap7 w7 hg7 hown7 hb7
            have O9 : Hid (w7.ownsRow w.heap.size tTal 2 (.slice (some ⟨g7, 0, none⟩) (c.length + 1) cap7) (cntF (xs.take (k + 1))).length (rowT (cntF (xs.take (k + 1))))) := by
              unfold Hid; rw [HS.out, HBU.out, if_neg HIN.out, List.length_append, ← rowT_snoc]; exact hown7
            have d9 := Lib.hid (hbi.out.trans hb7)
            clear hown7 hb7
            go_wp2_with fail
            go_roundw
            case rel => exact ⟨k + 1, by omega, by go_num, O9, d9⟩
            case measure => simp [intOf]; omega
    · obtain rfl : k = xs.length := by omega
      rw [List.take_length] at hO ⊢
      go_wp2_with fail
      all_goals (try (exfalso; omega))
      go_ret
      exact ⟨⟨_, rfl, hO.out⟩, hbr.out⟩
end Go.Proofs.YtfgaiopkclogmaaGreatDoor
