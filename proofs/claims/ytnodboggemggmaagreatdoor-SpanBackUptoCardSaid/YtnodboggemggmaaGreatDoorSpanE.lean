/- Contract of span: the spans that a range header asks for. -/
import Derived.Test.YtnodboggemggmaaGreatDoorSpanD
namespace Go.Proofs.YtnodboggemggmaaGreatDoor
open Go Go.RowKit
set_option maxHeartbeats 2000000

def ParseRes (t : Nat) (E : Int) (l : List (Int × Int)) (w : World) (e : Ending) (w' : World) : Prop :=
  ∃ v, e = .returned (.tuple #[v, .int .i64 E]) ∧ SpanRow w' w.heap.size t v l ∧ Below w.heap.size w w'
theorem parseRes_nil {t : Nat} {E : Int} {l : List (Int × Int)} {w w' : World} (hl : l = []) (hb : Below w.heap.size w w') : ParseRes t E l w (.returned (.tuple #[.slice none 0 0, .int .i64 E])) w' := by
  subst hl
  exact ⟨_, rfl, spanRow_nil _ _ _, hb⟩
theorem texts_cells {w : World} {b : Nat} {v : Value} {xs : List (List UInt8)} (h : Texts w b v xs) (hn : 0 < xs.length) :
    ∃ g cap, v = .slice (some ⟨g, 0, none⟩) xs.length cap ∧ g < w.heap.size ∧ b ≤ g ∧ ∀ j (hj : j < xs.length), w.cell? ⟨g, j, none⟩ = some (.string (bs xs[j])) := by
  rcases h.2 with ⟨_, h0⟩ | ⟨g, cap, cur, rfl, hg, r⟩
  · omega
  · refine ⟨g, cap, rfl, (World.ownsRow.lt h g rfl).2, hg, fun j hj => ?_⟩
    rw [World.ownsRow.cellAt h j (by omega)]
    simp [strV, hj]
theorem texts_slice {w : World} {b : Nat} {v : Value} {xs : List (List UInt8)} (h : Texts w b v xs) : ∃ a cap, v = .slice a xs.length cap := by
  rcases h.2 with ⟨rfl, h0⟩ | ⟨g, cap, cur, rfl, hg, r⟩
  · exact ⟨none, 0, by rw [h0]⟩
  · exact ⟨_, cap, rfl⟩

set_option maxRecDepth 100000 in
theorem parse_any (s : ByteArray) (size : Int) (w : World) (hE : Env w) (hs : s.size ≤ 1099511627) (z1 : size ≤ 9223372036854775807) :
    Calls Tryz.prog 4 #[.string s, .int .i64 size] w (ParseRes 38 (parseE (L s) size) (parseL (L s) size) w) := by
  obtain ⟨E, hEE⟩ := name_it (parseE (L s) size)
  obtain ⟨R, hR⟩ := name_it (parseL (L s) size)
  rw [hEE.out, hR.out]
  have hLs := L_length s
  have He := Lib.hid hE
  by_cases hz : size < 0
  · have h1 : Hid (E = 1 ∧ R = []) := by rw [← hEE.out, ← hR.out]; unfold parseE parseL; rw [if_pos hz, if_pos hz]; exact ⟨rfl, rfl⟩
    go_enter Tryz.func4, Tryz.ntmps4
    go_wp2_with fail
    go_ret2
    rw [h1.out.1]
    exact parseRes_nil h1.out.2 (Below.refl _ _)
  · have z0 : 0 ≤ size := by omega
    clear hz
    obtain ⟨a, ha⟩ := name_it (cutA 61 (L s))
    obtain ⟨b, hb⟩ := name_it (cutZ 61 (L s))
    obtain ⟨f, hf⟩ := name_it ((idx 61 (L s)).isSome)
    have hal : a.length ≤ s.size := by have := cutA_le 61 (L s); rw [ha.out, hLs] at this; exact this
    have hbl : b.length ≤ s.size := by have := cutZ_le 61 (L s); rw [hb.out, hLs] at this; exact this
    obtain ⟨o, ho⟩ := name_it (listOf b)
    obtain ⟨g, hg⟩ := name_it (decide (lower a = lower bytesW))
    have hlw : lower bytesW = bytesW := by decide
    have hspec : Hid (E = (if f = true ∧ g = true then fromE size o else 90) ∧ R = if f = true ∧ g = true then fromL size o else []) := by
      rw [← hEE.out, ← hR.out, ← hf.out, ← hg.out, ← ho.out, ← hb.out, ← ha.out, hlw]
      unfold parseE parseL
      have hz : ¬ size < 0 := by omega
      simp only [if_neg hz]
      exact ⟨trivial, trivial⟩
    clear hEE hR
    go_enter Tryz.func4, Tryz.ntmps4
    go_wp2_with fail
    all_goals (try (exfalso; omega))
    refine (cut_any 61 s _ He.out (by omega)).mono ?_; rintro e w1 ⟨rfl, hb1⟩
    rw [ha.out, hb.out, hf.out]
    have He1 := Lib.hid (He.out.next hb1)
    go_wp2_with fail
    refine (list_any (bs b) _ (by rw [size_bs]; omega)).mono ?_
    intro e w2 hres
    obtain ⟨v, he, htx, hb2⟩ := hres
    subst he
    rw [L_bs, ho.out] at htx ⊢
    obtain ⟨va, vc, hv⟩ := texts_slice htx
    subst hv
    have hb12 := hb1.trans (hb2.mono hb1.size)
    have He2 := Lib.hid (He1.out.next hb2)
    have HT := Lib.hid htx; clear htx
    clear hb2
    cases f
    · have h1 : Hid (E = 90 ∧ R = []) := by
        have := hspec.out
        exact ⟨by rw [this.1]; simp, by rw [this.2]; simp⟩
      clear hspec
      go_wp2_with fail
      go_ret2
      rw [h1.out.1]
      exact parseRes_nil h1.out.2 hb12
    · go_wp2_with fail
      refine (same_any (bs a) ⟨#[98, 121, 116, 101, 115]⟩ _ (by rw [size_bs]; unfold maxLen; omega) (by decide)).mono ?_; rintro e w3 ⟨rfl, hb3⟩
      have hcmp : Hid (decide (lower (L (bs a)) = lower (L ⟨#[98, 121, 116, 101, 115]⟩)) = g) := hg
      rw [hcmp.out]
      have hb13 := hb12.trans (hb3.mono hb12.size)
      have He3 := Lib.hid (He2.out.next hb3)
      have HT3 : Hid (Texts w3 w1.heap.size (.slice va (listL o).length vc) (listL o)) := own_keep HT.out hb3 (Nat.le_refl _)
      clear HT hb3 hb12
      cases g
      · have h1 : Hid (E = 90 ∧ R = []) := by
          have := hspec.out
          exact ⟨by rw [this.1]; simp, by rw [this.2]; simp⟩
        clear hspec
        go_wp2_with fail
        go_ret2
        rw [h1.out.1]
        exact parseRes_nil h1.out.2 hb13
      · have hspec2 : Hid (E = fromE size o ∧ R = fromL size o) := by
          have := hspec.out
          exact ⟨by rw [this.1]; simp, by rw [this.2]; simp⟩
        clear hspec
        cases o with
        | none =>
          have h1 : Hid (E = 90 ∧ R = []) := hspec2.out
          have hle : Hid (listE none = 14) := rfl
          simp only [listE]
          clear hspec2
          go_wp2_with fail
          go_ret2
          rw [h1.out.1]
          exact parseRes_nil h1.out.2 hb13
        | some xs =>
          rcases xs with _ | ⟨x0, xr⟩
          · have h1 : Hid (E = 90 ∧ R = []) := hspec2.out
            simp only [listE, listL]
            clear hspec2
            go_wp2_with fail
            go_ret2
            rw [h1.out.1]
            exact parseRes_nil h1.out.2 hb13
          · obtain ⟨xs, hxs⟩ := name_it (x0 :: xr)
            have hlen : 0 < xs.length := by rw [← hxs.out]; simp
            have hspec3 : Hid (E = elsE (els size xs) ∧ R = (els size xs).getD []) := by rw [← hxs.out]; exact hspec2.out
            have hle := listOf_le ho.out
            rw [hxs.out] at hle
            have hcnt := hle.2
            have hpl := Lib.hid hle.1
            clear hle hspec2
            simp only [listE, listL] at HT3 ⊢
            rw [hxs.out] at HT3 ⊢
            obtain ⟨gr, cap, hv, hgl, _, hcells⟩ := texts_cells HT3.out hlen
            injection hv with hva hvb hvc
            subst hva; subst hvc
            have HC := Lib.hid hcells
            clear hcells HT3 ho hxs
            have hne : ((xs.length : Int) == 0) = false := by simp; intro h; rw [h] at hlen; simp at hlen
            obtain ⟨i0, hi, hz0, hz1, hz2⟩ := info_parts infoSpan
            obtain ⟨B, hB⟩ : ∃ B, Hid (B = w3.heap.size) := ⟨_, rfl⟩
            have hBw : B ≤ w3.heap.size := by rw [hB.out]; exact Nat.le_refl _
            have hgB : gr < B := by
              rw [hB.out]; exact hgl
            have hwB : w.heap.size ≤ B := by rw [hB.out]; exact hb13.size
            have h6 : 6 ≤ w3.heap.size := He3.out.n
            clear hgl He He1 He2
            go_wp2_with fail
            go_loopw [11, 48] (fun out i wr => ∃ (k : Nat) (acc : List (Int × Int)), k ≤ xs.length ∧ i = .int .i64 k ∧ Hid (SpanRow wr B 38 out acc) ∧ acc.length ≤ k ∧
                Hid ((els size (xs.drop k)).map (acc ++ ·) = els size xs) ∧ Below B w3 wr) (fun _ i _ => xs.length - (intOf i).toNat)
            case atStart => exact ⟨0, [], Nat.zero_le _, rfl, spanRow_nil _ _ _, Nat.le_refl _, by unfold Hid; simp, Below.refl _ _⟩
            case round =>
              obtain ⟨k, acc, hk, rfl, hrow, hac, hr, hbk⟩ := hrel
              have hbw := hb13.trans (hbk.mono hwB)
              have hBr := Nat.le_trans hBw hbk.size
              by_cases hlt : k < xs.length
              · obtain ⟨x, hx⟩ := name_it xs[k]
                have hcx : wr.cell? ⟨gr, k, none⟩ = some (.string (bs x)) := by
                  rw [hbk.cell (p := ⟨gr, k, none⟩) hgB, HC.out k hlt, hx.out]
                have hxl : x.length ≤ s.size := by
                  have := hpl.out _ (List.getElem_mem hlt)
                  rw [hx.out] at this; omega
                have hdr : Hid (xs.drop k = x :: xs.drop (k + 1)) := by unfold Hid; rw [List.drop_eq_getElem_cons hlt, hx.out]
                have hEr := Lib.hid (He3.out.below hbk (by rw [hB.out]; exact h6))
                have hstep := hr.out
                rw [hdr.out] at hstep
                simp only [els] at hstep
                cases hel : elemO x size with
                | none =>
                  rw [hel] at hstep
                  have h1 : Hid (E = 90 ∧ R = []) := by
                    have := hspec3.out
                    rw [← hstep] at this
                    exact this
                  have HL := Lib.hid hel; clear hel hstep
                  go_wp2_with fail
                  refine (element_any (bs x) size _ hEr.out (by rw [size_bs]; omega) z0 z1).mono ?_; rintro e w5 ⟨rfl, hb5⟩
                  rw [L_bs, HL.out]
                  simp only [elemV]
                  have hb15 := hbw.trans (hb5.mono hbw.size)
                  go_wp2_with fail
                  go_ret2
                  rw [h1.out.1]
                  exact parseRes_nil h1.out.2 (hb15.alloc hb15.size _)
                | some p =>
                  obtain ⟨pa, pb, pm⟩ := p
                  rw [hel] at hstep
                  simp only [] at hstep
                  rw [Option.map_map] at hstep
                  have HL := Lib.hid hel; clear hel
                  cases pm
                  · have hr2 : Hid ((els size (xs.drop (k + 1))).map (acc ++ ·) = els size xs) := by
                      unfold Hid; rw [← hstep]; congr 1
                    clear hstep
                    go_wp2_with fail
                    refine (element_any (bs x) size _ hEr.out (by rw [size_bs]; omega) z0 z1).mono ?_; rintro e w5 ⟨rfl, hb5⟩
                    rw [L_bs, HL.out]
                    simp only [elemV]
                    have hbk5 := hbk.trans (hb5.mono hBr)
                    have hrow5 : Hid (SpanRow (w5.alloc (.cells #[.int .i64 pa, .int .i64 pb] 38)) B 38 _ acc) := (own_keep hrow.out hb5 (Nat.le_refl _)).alloc _
                    have hbk6 := hbk5.alloc (Nat.le_trans hBw hbk5.size) (.cells #[.int .i64 pa, .int .i64 pb] 38)
                    go_wp2_with fail
                    go_roundw
                    case rel => exact ⟨k + 1, acc, by omega, by go_num, hrow5, by omega, hr2, hbk6⟩
                    case measure => simp [intOf]; omega
                  · have hr2 : Hid ((els size (xs.drop (k + 1))).map ((acc ++ [(pa, pb)]) ++ ·) = els size xs) := by
                      unfold Hid; rw [← hstep]; congr 1; funext l; simp
                    clear hstep
                    go_wp2_with fail
                    refine (element_any (bs x) size _ hEr.out (by rw [size_bs]; omega) z0 z1).mono ?_; rintro e w5 ⟨rfl, hb5⟩
                    rw [L_bs, HL.out]
                    simp only [elemV]
                    have hbk5 := hbk.trans (hb5.mono hBr)
                    have hrow5 : Hid (SpanRow (w5.alloc (.cells #[.int .i64 pa, .int .i64 pb] 38)) B 38 _ acc) := (own_keep hrow.out hb5 (Nat.le_refl _)).alloc _
                    have hbk6 := hbk5.alloc (Nat.le_trans hBw hbk5.size) (.cells #[.int .i64 pa, .int .i64 pb] 38)
                    have hB6 := Nat.le_trans hBw hbk6.size
                    go_wp2_with (at_builtin; refine append2 rfl _ _ 22 rfl B 38 i0 (.agg #[.int .i64 0, .int .i64 0]) 16 Tryz.underlying22 hi hz0 hz1 hz2 rfl hrow5.out rfl (.int .i64 pa) (.int .i64 pb) rfl rfl rfl (Array.size_push _).symm ?_ ?_ ?_ ?_)
                    · unfold maxLen; omega
                    · omega
                    · exact hB6
                    intro g7 cap7 w7 hg7 hown7 hb7
                    have hrow7 : Hid (SpanRow w7 B 38 (.slice (some ⟨g7, 0, none⟩) (acc.length + 1) cap7) (acc ++ [(pa, pb)])) := spanRow_snoc hown7
                    have hbk7 := hbk6.trans hb7
                    clear hown7
                    go_wp2_with fail
                    go_roundw
                    case rel => exact ⟨k + 1, acc ++ [(pa, pb)], by omega, by go_num, hrow7, by rw [List.length_append, List.length_singleton]; omega, hr2, hbk7⟩
                    case measure => simp [intOf]; omega
              · obtain rfl : k = xs.length := by omega
                have hels : Hid (els size xs = some acc) := by
                  have := hr.out
                  rw [List.drop_of_length_le (Nat.le_refl _)] at this
                  unfold Hid; rw [← this]; simp [els]
                have hspec4 : Hid (E = elsE (some acc) ∧ R = acc) := by
                  have := hspec3.out
                  rw [hels.out] at this
                  exact this
                clear hspec3 hr hels
                obtain ⟨oa, oc, hv⟩ := spanRow_slice hrow.out
                subst hv
                rcases hacc : acc with _ | ⟨y, yr⟩
                · have h1 : Hid (E = 91 ∧ R = []) := by
                    have := hspec4.out
                    rw [hacc] at this
                    exact this
                  have hlz : ((acc.length : Int) == 0) = true := by rw [hacc]; rfl
                  clear hacc hspec4
                  go_wp2_with fail
                  go_ret2
                  rw [h1.out.1]
                  exact parseRes_nil h1.out.2 hbw
                · have h1 : Hid (E = 0 ∧ R = acc) := by
                    have := hspec4.out
                    rw [hacc] at this ⊢
                    exact this
                  have hlz : ((acc.length : Int) == 0) = false := by rw [hacc]; simp; omega
                  have hrow9 : Hid (SpanRow wr w.heap.size 38 (.slice oa (y :: yr).length oc) (y :: yr)) := by
                    have := own_mono hrow.out hwB
                    rw [hacc] at this
                    exact this
                  have HA := Lib.hid hacc
                  clear hacc hspec4
                  go_wp2_with fail
                  go_ret2
                  rw [h1.out.1, h1.out.2, HA.out]
                  exact ⟨_, rfl, hrow9.out, hbw⟩
end Go.Proofs.YtnodboggemggmaaGreatDoor
