/- Contract of the reference's span: the spans that a range header asks for. -/
import Derived.Test.YtnodboggemggmaaGreatDoorSpanE
import Derived.Test.YtnodboggemggmaaGreatDoorSpanC
namespace Go.Proofs.YtnodboggemggmaaGreatDoor
open Go Go.RowKit
set_option maxHeartbeats 2000000

theorem lowerB_eq (c : UInt8) : lowerB c = 61 ↔ c = 61 := by
  unfold lowerB
  split
  · rename_i h
    constructor
    · intro h1
      have := congrArg UInt8.toNat h1
      rw [u8_up h.1 h.2] at this
      have h61 : (61 : UInt8).toNat = 61 := rfl
      omega
    · intro h1; subst h1
      have h61 : (61 : UInt8).toNat = 61 := rfl
      omega
  · exact Iff.rfl
theorem lowerB_no {c d : UInt8} (h : lowerB c = d) (hd : d ≠ 61) : (c == (61 : UInt8)) = false := by
  cases hc : (c == (61 : UInt8))
  · rfl
  · have : c = 61 := by simpa using hc
    exact absurd (h.symm.trans ((lowerB_eq c).2 this)) hd
theorem head_iff (l : List UInt8) : (6 ≤ l.length ∧ lower (l.take 6) = [98, 121, 116, 101, 115, 61]) ↔ ((idx 61 l).isSome = true ∧ lower (cutA 61 l) = bytesW) := by
  constructor
  · rintro ⟨h1, h2⟩
    match l, h1, h2 with
    | c0 :: c1 :: c2 :: c3 :: c4 :: c5 :: r, _, h2 =>
      simp only [List.take_succ_cons, List.take_zero, lower, List.map_cons, List.map_nil, List.cons.injEq, and_true] at h2
      obtain ⟨e0, e1, e2, e3, e4, e5⟩ := h2
      have hi : idx 61 (c0 :: c1 :: c2 :: c3 :: c4 :: c5 :: r) = some 5 := by
        rw [idx_cons, lowerB_no e0 (by decide), idx_cons, lowerB_no e1 (by decide), idx_cons, lowerB_no e2 (by decide), idx_cons, lowerB_no e3 (by decide), idx_cons, lowerB_no e4 (by decide), idx_cons, (lowerB_eq c5).1 e5]
        rfl
      unfold cutA
      rw [hi]
      refine ⟨rfl, ?_⟩
      simp [lower, bytesW, e0, e1, e2, e3, e4]
  · rintro ⟨h1, h2⟩
    obtain ⟨i, hi⟩ := Option.isSome_iff_exists.1 h1
    have hl := idx_lt hi
    unfold cutA at h2
    rw [hi] at h2
    have h5 : i = 5 := by
      have := congrArg List.length h2
      simp [lower, bytesW] at this
      omega
    subst h5
    have hx : l[5] = 61 := by
      have := (List.findIdx?_eq_some_iff_getElem.1 hi).2.1
      simpa using this
    refine ⟨by omega, ?_⟩
    simp only [] at h2
    rw [List.take_succ_eq_append_getElem (i := 5) hl, lower, List.map_append]
    rw [lower] at h2
    rw [h2, hx]
    rfl
theorem head_cut {l : List UInt8} (h : (idx 61 l).isSome = true ∧ lower (cutA 61 l) = bytesW) : cutZ 61 l = l.drop 6 := by
  obtain ⟨h1, h2⟩ := h
  obtain ⟨i, hi⟩ := Option.isSome_iff_exists.1 h1
  have hl := idx_lt hi
  unfold cutA at h2
  rw [hi] at h2
  have h5 : i = 5 := by
    have := congrArg List.length h2
    simp [lower, bytesW] at this
    omega
  subst h5
  unfold cutZ; rw [hi]
theorem parseRes_empty {E : Int} {l : List (Int × Int)} {t : Nat} {w wx : World} (hl : l = []) (hb : Below w.heap.size w wx) : ParseRes t E l w (.returned (.tuple #[.slice (some ⟨wx.heap.size, 0, none⟩) 0 0, .int .i64 E])) (wx.alloc (.cells #[] t)) := by
  subst hl
  exact ⟨_, rfl, World.ownsRow_lit wx #[] 0 hb.size (by unfold maxLen; omega) rfl, hb.alloc hb.size _⟩

set_option maxRecDepth 100000 in
theorem rparse_any (s : ByteArray) (size : Int) (w : World) (hs : s.size ≤ 1099511627) (z1 : size ≤ 9223372036854775807) :
    Calls Tryz.prog 5 #[.string s, .int .i64 size] w (ParseRes 52 (parseE (L s) size) (parseL (L s) size) w) := by
  obtain ⟨E, hEE⟩ := name_it (parseE (L s) size)
  obtain ⟨R, hR⟩ := name_it (parseL (L s) size)
  rw [hEE.out, hR.out]
  have hLs := L_length s
  by_cases hz : size < 0
  · have h1 : Hid (E = 1 ∧ R = []) := by rw [← hEE.out, ← hR.out]; unfold parseE parseL; rw [if_pos hz, if_pos hz]; exact ⟨rfl, rfl⟩
    go_enter Tryz.func5, Tryz.ntmps5
    go_wp2_with fail
    go_ret2
    rw [h1.out.1]
    exact parseRes_empty h1.out.2 (Below.refl _ _)
  · have z0 : 0 ≤ size := by omega
    clear hz
    obtain ⟨b, hb⟩ := name_it ((L s).drop 6)
    obtain ⟨a, ha⟩ := name_it ((L s).take 6)
    have hbl : b.length ≤ s.size := by rw [← hb.out, List.length_drop]; omega
    have hal : a.length ≤ s.size := by rw [← ha.out, List.length_take]; omega
    obtain ⟨o, ho⟩ := name_it (listOf b)
    obtain ⟨g, hg⟩ := name_it (decide (lower a = lower [98, 121, 116, 101, 115, 61]))
    have hlw : lower [98, 121, 116, 101, 115, 61] = [98, 121, 116, 101, 115, 61] := by decide
    have hspec : Hid (E = (if 6 ≤ s.size ∧ g = true then fromE size o else 90) ∧ R = if 6 ≤ s.size ∧ g = true then fromL size o else []) := by
      rw [← hEE.out, ← hR.out, ← hg.out, ← ho.out, ← hb.out, ← ha.out, hlw]
      unfold parseE parseL
      have hz : ¬ size < 0 := by omega
      simp only [if_neg hz]
      have hiff := head_iff (L s)
      rw [hLs] at hiff
      by_cases hh : (idx 61 (L s)).isSome = true ∧ lower (cutA 61 (L s)) = bytesW
      · have h2 := hiff.2 hh
        rw [head_cut hh]
        simp only [decide_eq_true_eq]
        rw [if_pos hh, if_pos hh, if_pos h2, if_pos h2]
        exact ⟨rfl, rfl⟩
      · have h2 := mt hiff.1 hh
        simp only [decide_eq_true_eq]
        rw [if_neg hh, if_neg hh, if_neg h2, if_neg h2]
        exact ⟨rfl, rfl⟩
    clear hEE hR hlw
    have hxa : Hid (s.extract 0 6 = bs a) := by unfold Hid; rw [extract_head, ha.out]
    have hxb : Hid (s.extract 6 s.size = bs b) := by unfold Hid; rw [extract_tail, hb.out]
    by_cases h6 : s.size < 6
    · have h1 : Hid (E = 90 ∧ R = []) := by
        have := hspec.out
        exact ⟨by rw [this.1, if_neg (by omega)], by rw [this.2, if_neg (by omega)]⟩
      clear hspec
      go_enter Tryz.func5, Tryz.ntmps5
      go_wp2_with fail
      all_goals (try (exfalso; omega))
      go_ret2
      rw [h1.out.1]
      exact parseRes_empty h1.out.2 (Below.refl _ _)
    · have h6' : 6 ≤ s.size := by omega
      clear h6
      go_enter Tryz.func5, Tryz.ntmps5
      go_wp2_with fail
      all_goals (try (exfalso; omega))
      rw [hxa.out]
      refine (rsame_any (bs a) ⟨#[98, 121, 116, 101, 115, 61]⟩ _ (by rw [size_bs]; unfold maxLen; omega) (by decide)).mono ?_; rintro e w1 ⟨rfl, hb1⟩
      have hcmp : Hid (decide (lower (L (bs a)) = lower (L ⟨#[98, 121, 116, 101, 115, 61]⟩)) = g) := hg
      rw [hcmp.out]
      cases g
      · have h1 : Hid (E = 90 ∧ R = []) := by
          have := hspec.out
          exact ⟨by rw [this.1]; simp, by rw [this.2]; simp⟩
        clear hspec
        go_wp2_with fail
        all_goals (try (exfalso; omega))
        go_ret2
        rw [h1.out.1]
        exact parseRes_empty h1.out.2 hb1
      · have hspec2 : Hid (E = fromE size o ∧ R = fromL size o) := by
          have := hspec.out
          exact ⟨by rw [this.1, if_pos ⟨h6', rfl⟩], by rw [this.2, if_pos ⟨h6', rfl⟩]⟩
        clear hspec
        go_wp2_with fail
        all_goals (try (exfalso; omega))
        rw [hxb.out]
        refine (rlist_any (bs b) _ (by rw [size_bs]; omega)).mono ?_
        intro e w3 hres
        obtain ⟨v, he, htx, hb3⟩ := hres
        subst he
        rw [L_bs, ho.out] at htx ⊢
        obtain ⟨va, vc, hv⟩ := texts_slice htx
        subst hv
        have hb13 := hb1.trans (hb3.mono hb1.size)
        have HT3 : Hid (Texts w3 w1.heap.size (.slice va (listL o).length vc) (listL o)) := htx
        clear htx hb3 hb1
        cases o with
        | none =>
          have h1 : Hid (E = 90 ∧ R = []) := hspec2.out
          have hle : Hid (listE none = 14) := rfl
          simp only [listE]
          clear hspec2
          go_wp2_with fail
          go_ret2
          rw [h1.out.1]
          exact parseRes_empty h1.out.2 hb13
        | some xs =>
          rcases xs with _ | ⟨x0, xr⟩
          · have h1 : Hid (E = 90 ∧ R = []) := hspec2.out
            simp only [listE, listL]
            clear hspec2
            go_wp2_with fail
            go_ret2
            rw [h1.out.1]
            exact parseRes_empty h1.out.2 hb13
          · obtain ⟨xs, hxs⟩ := name_it (x0 :: xr)
            have hlen : 0 < xs.length := by rw [← hxs.out]; simp
            have hspec3 : Hid (E = elsE (els size xs) ∧ R = (els size xs).getD []) := by rw [← hxs.out]; exact hspec2.out
            have hle := listOf_le ho.out
            rw [hxs.out] at hle
            have hcnt := hle.2
            have hpl := Lib.hid hle.1
            clear hle hspec2
            simp only [listE, listL] at HT3 ⊢
            rw [hxs.out] at HT3 ⊢
            obtain ⟨gr, cap, hv, hgl, _, hcells⟩ := texts_cells HT3.out hlen
            injection hv with hva hvb hvc
            subst hva; subst hvc
            have HC := Lib.hid hcells
            clear hcells HT3 ho hxs
            have hne : ((xs.length : Int) == 0) = false := by simp; intro h; rw [h] at hlen; simp at hlen
            obtain ⟨i0, hi, hz0, hz1, hz2⟩ := info_parts infoSpanR
            obtain ⟨B, hB⟩ : ∃ B, Hid (B = w3.heap.size) := ⟨_, rfl⟩
            have hBw : B ≤ w3.heap.size := by rw [hB.out]; exact Nat.le_refl _
            have hgB : gr < B := by
              rw [hB.out]; exact hgl
            have hwB : w.heap.size ≤ B := by rw [hB.out]; exact hb13.size
            clear hgl
            go_wp2_with fail
            go_loopw [8, 9] (fun out i wr => ∃ (k : Nat) (acc : List (Int × Int)), k ≤ xs.length ∧ i = .int .i64 k ∧ Hid (SpanRow wr B 52 out acc) ∧ acc.length ≤ k ∧
                Hid ((els size (xs.drop k)).map (acc ++ ·) = els size xs) ∧ Below B w3 wr) (fun _ i _ => xs.length - (intOf i).toNat)
            case atStart => exact ⟨0, [], Nat.zero_le _, rfl, World.ownsRow_lit w3 #[] 0 hBw (by unfold maxLen; omega) rfl, Nat.le_refl _, by unfold Hid; simp, (Below.refl _ _).alloc hBw _⟩
            case round =>
              obtain ⟨k, acc, hk, rfl, hrow, hac, hr, hbk⟩ := hrel
              have hbw := hb13.trans (hbk.mono hwB)
              have hBr := Nat.le_trans hBw hbk.size
              by_cases hlt : k < xs.length
              · obtain ⟨x, hx⟩ := name_it xs[k]
                have hcx : wr.cell? ⟨gr, k, none⟩ = some (.string (bs x)) := by
                  rw [hbk.cell (p := ⟨gr, k, none⟩) hgB, HC.out k hlt, hx.out]
                have hxl : x.length ≤ s.size := by
                  have := hpl.out _ (List.getElem_mem hlt)
                  rw [hx.out] at this; omega
                have hdr : Hid (xs.drop k = x :: xs.drop (k + 1)) := by unfold Hid; rw [List.drop_eq_getElem_cons hlt, hx.out]
                have hstep := hr.out
                rw [hdr.out] at hstep
                simp only [els] at hstep
                cases hel : elemO x size with
                | none =>
                  rw [hel] at hstep
                  have h1 : Hid (E = 90 ∧ R = []) := by
                    have := hspec3.out
                    rw [← hstep] at this
                    exact this
                  have HL := Lib.hid hel; clear hel hstep
                  go_wp2_with fail
                  refine (one_any (bs x) size _ (by rw [size_bs]; omega) z0 z1).mono ?_; rintro e w5 ⟨rfl, hb5⟩
                  rw [L_bs, HL.out]
                  simp only [elemV]
                  have hb15 := hbw.trans (hb5.mono hbw.size)
                  go_wp2_with fail
                  go_ret2
                  rw [h1.out.1]
                  have hfin := parseRes_empty (t := 52) (E := 90) h1.out.2 (hb15.alloc hb15.size (.cells #[.int .i64 0, .int .i64 0] 52))
                  rw [show (w5.alloc (.cells #[.int .i64 0, .int .i64 0] 52)).heap.size = w5.heap.size + 1 from Array.size_push ..] at hfin
                  exact hfin
                | some p =>
                  obtain ⟨pa, pb, pm⟩ := p
                  rw [hel] at hstep
                  simp only [] at hstep
                  rw [Option.map_map] at hstep
                  have HL := Lib.hid hel; clear hel
                  cases pm
                  · have hr2 : Hid ((els size (xs.drop (k + 1))).map (acc ++ ·) = els size xs) := by
                      unfold Hid; rw [← hstep]; congr 1
                    clear hstep
                    go_wp2_with fail
                    refine (one_any (bs x) size _ (by rw [size_bs]; omega) z0 z1).mono ?_; rintro e w5 ⟨rfl, hb5⟩
                    rw [L_bs, HL.out]
                    simp only [elemV]
                    have hbk5 := hbk.trans (hb5.mono hBr)
                    have hrow5 : Hid (SpanRow (w5.alloc (.cells #[.int .i64 pa, .int .i64 pb] 52)) B 52 _ acc) := (own_keep hrow.out hb5 (Nat.le_refl _)).alloc _
                    have hbk6 := hbk5.alloc (Nat.le_trans hBw hbk5.size) (.cells #[.int .i64 pa, .int .i64 pb] 52)
                    go_wp2_with fail
                    go_roundw
                    case rel => exact ⟨k + 1, acc, by omega, by go_num, hrow5, by omega, hr2, hbk6⟩
                    case measure => simp [intOf]; omega
                  · have hr2 : Hid ((els size (xs.drop (k + 1))).map ((acc ++ [(pa, pb)]) ++ ·) = els size xs) := by
                      unfold Hid; rw [← hstep]; congr 1; funext l; simp
                    clear hstep
                    go_wp2_with fail
                    refine (one_any (bs x) size _ (by rw [size_bs]; omega) z0 z1).mono ?_; rintro e w5 ⟨rfl, hb5⟩
                    rw [L_bs, HL.out]
                    simp only [elemV]
                    have hbk5 := hbk.trans (hb5.mono hBr)
                    have hrow5 : Hid (SpanRow (w5.alloc (.cells #[.int .i64 pa, .int .i64 pb] 52)) B 52 _ acc) := (own_keep hrow.out hb5 (Nat.le_refl _)).alloc _
                    have hbk6 := hbk5.alloc (Nat.le_trans hBw hbk5.size) (.cells #[.int .i64 pa, .int .i64 pb] 52)
                    have hB6 := Nat.le_trans hBw hbk6.size
                    go_wp2_with (at_builtin; refine append2 rfl _ _ 26 rfl B 52 i0 (.agg #[.int .i64 0, .int .i64 0]) 16 Tryz.underlying26 hi hz0 hz1 hz2 rfl hrow5.out rfl (.int .i64 pa) (.int .i64 pb) rfl rfl rfl (Array.size_push _).symm ?_ ?_ ?_ ?_)
                    · unfold maxLen; omega
                    · omega
                    · exact hB6
                    intro g7 cap7 w7 hg7 hown7 hb7
                    have hrow7 : Hid (SpanRow w7 B 52 (.slice (some ⟨g7, 0, none⟩) (acc.length + 1) cap7) (acc ++ [(pa, pb)])) := spanRow_snoc hown7
                    have hbk7 := hbk6.trans hb7
                    clear hown7
                    go_wp2_with fail
                    go_roundw
                    case rel => exact ⟨k + 1, acc ++ [(pa, pb)], by omega, by go_num, hrow7, by rw [List.length_append, List.length_singleton]; omega, hr2, hbk7⟩
                    case measure => simp [intOf]; omega
              · obtain rfl : k = xs.length := by omega
                have hels : Hid (els size xs = some acc) := by
                  have := hr.out
                  rw [List.drop_of_length_le (Nat.le_refl _)] at this
                  unfold Hid; rw [← this]; simp [els]
                have hspec4 : Hid (E = elsE (some acc) ∧ R = acc) := by
                  have := hspec3.out
                  rw [hels.out] at this
                  exact this
                clear hspec3 hr hels
                obtain ⟨oa, oc, hv⟩ := spanRow_slice hrow.out
                subst hv
                rcases hacc : acc with _ | ⟨y, yr⟩
                · have h1 : Hid (E = 91 ∧ R = []) := by
                    have := hspec4.out
                    rw [hacc] at this
                    exact this
                  have hlz : ((acc.length : Int) == 0) = true := by rw [hacc]; rfl
                  clear hacc hspec4
                  go_wp2_with fail
                  go_ret2
                  rw [h1.out.1]
                  exact parseRes_empty h1.out.2 hbw
                · have h1 : Hid (E = 0 ∧ R = acc) := by
                    have := hspec4.out
                    rw [hacc] at this ⊢
                    exact this
                  have hlz : ((acc.length : Int) == 0) = false := by rw [hacc]; simp; omega
                  have hrow9 : Hid (SpanRow wr w.heap.size 52 (.slice oa (y :: yr).length oc) (y :: yr)) := by
                    have := own_mono hrow.out hwB
                    rw [hacc] at this
                    exact this
                  have HA := Lib.hid hacc
                  clear hacc hspec4
                  go_wp2_with fail
                  go_ret2
                  rw [h1.out.1, h1.out.2, HA.out]
                  exact ⟨_, rfl, hrow9.out, hbw⟩
end Go.Proofs.YtnodboggemggmaaGreatDoor
