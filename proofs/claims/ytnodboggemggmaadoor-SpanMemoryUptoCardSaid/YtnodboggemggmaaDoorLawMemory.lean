/- SpanMemory: the walk of the law. -/
import Derived.Test.YtnodboggemggmaaDoorMemB
import Derived.Test.YtnodboggemggmaaDoorLawMerges
import Derived.Test.YtnodboggemggmaaDoorLawParses
namespace Go.Proofs.YtnodboggemggmaaDoor
open Go Go.RowKit
set_option maxHeartbeats 4000000

theorem parseL_lt (s : ByteArray) (size : Int) (hs : s.size ≤ 1048576) : (parseL (L s) size).length ≤ 2097152 := by
  have hz := cutZ_le 61 (L s)
  rw [L_length] at hz
  unfold parseL
  split
  · simp
  · split
    · cases ho : listOf (cutZ 61 (L s)) with
      | none => simp [fromL]
      | some xs =>
        have h1 := (listOf_le ho).2
        simp only [fromL]
        cases he : els size xs with
        | none => simp
        | some l => have := els_length size xs l he; simp only [Option.getD_some]; omega
    · simp
theorem infoRow : (Tryd.prog.info? 22).map (fun i => (i.zero, i.size, i.bytes)) = some (some (.slice none 0 0), 1, 24) := by kernel_rfl
/-- what the rows hold: in turns what was parsed, and what was merged -/
def C0 (P M : List Sp) (r : Nat) : List Sp := if r % 2 = 0 then P else M
theorem C0_even (P M : List Sp) (k : Nat) : C0 P M (2 * k) = P := by unfold C0; rw [if_pos (by omega)]
theorem C0_odd (P M : List Sp) (k : Nat) : C0 P M (2 * k + 1) = M := by unfold C0; rw [if_neg (by omega)]
theorem C0_le {P M : List Sp} {n : Nat} (hP : P.length ≤ n) (hM : M.length ≤ n) (r : Nat) : (C0 P M r).length ≤ n := by unfold C0; split <;> omega
theorem Six.nil (w : World) (B : Nat) (hB : B ≤ w.heap.size) (C : Nat → List Sp) : Six (w.alloc (.cells #[] 22)) B (.slice (some ⟨w.heap.size, 0, none⟩) 0 0) [] C :=
  ⟨World.ownsRow_lit w #[] 0 hB (by unfold maxLen; omega) rfl, fun r v h => by simp at h, fun r v k h => by simp at h, fun r r' v v' k _ h => by simp at h⟩

set_option maxRecDepth 100000 in
theorem lawMemory_any (s : ByteArray) (size : Int) (v : Value) (l : List Sp) (w : World) (hE : Env w) (h : SpanSl w v l) (hs : s.size ≤ 1048576) (z1 : size ≤ 9223372036854775807) (nl : 3 * l.length ≤ 1048576) :
    Calls Tryd.prog 12 #[.string s, .int .i64 size, v] w fun e w' => e = .returned (.bool true) ∧ Below w.heap.size w w' := by
  have HE := Lib.hid hE; clear hE
  have HS := Lib.hid h
  obtain ⟨a, cap, hv, _⟩ := h
  subst hv
  have hpa := fun wx hx => parse_any s size wx hx (by omega) z1
  have hrp := fun wx => rparse_any s size wx (by omega) z1
  have hP := parseL_lt s size hs
  have hM := (rmergeS_norm l).2.2
  have hme := fun wx hx => merge_any (.slice a l.length cap) l wx hx (by omega)
  have hrm := fun wx u hx => rmerge_any u l wx hx (by omega)
  have hsp := fun wx hx => spans_any (.slice a l.length cap) l wx hx (by omega)
  unfold ParseRes at hpa hrp
  obtain ⟨P, hPn⟩ := name_it (parseL (L s) size)
  obtain ⟨E, hEn⟩ := name_it (parseE (L s) size)
  obtain ⟨M, hMn⟩ := name_it (rmergeS l)
  rw [hPn.out] at hpa hrp hP
  rw [hEn.out] at hpa hrp
  rw [hMn.out] at hme hrm hM
  have HPA := Lib.hid hpa
  have HRP := Lib.hid hrp
  have HME := Lib.hid hme
  have HRM := Lib.hid hrm
  have HSP := Lib.hid hsp
  have hPm : P.length ≤ maxLen := by unfold maxLen; omega
  have hMm : M.length ≤ maxLen := by unfold maxLen; omega
  have hlm : l.length ≤ maxLen := by unfold maxLen; omega
  have HC := Lib.hid (fun r => C0_le (n := 2097152) hP (by omega : M.length ≤ 2097152) r)
  clear hpa hrp hme hrm hsp hPn hEn hMn
  go_enter Tryd.func12, Tryd.ntmps12
  go_wp2_with fail
  refine (HRP.out _).mono ?_; rintro e w1 ⟨b, rfl, rb, d1⟩
  obtain ⟨ba, bc, hb⟩ := spanRow_slice rb
  subst hb
  have HB1 := Lib.hid (spanSl_of_row rb)
  have HS1 := Lib.hid (spanSl_keep HS.out d1)
  clear rb HRP HS
  go_wp2_with fail
  refine (HSP.out _ HS1.out).mono ?_; rintro e w2 ⟨t, rfl, rt, b2⟩
  obtain ⟨ta, tc, ht⟩ := spanRow_slice rt
  subst ht
  have HT2 := Lib.hid (spanSl_of_row rt)
  have HB2 := Lib.hid (spanSl_keep HB1.out b2)
  have HS2 := Lib.hid (spanSl_keep HS1.out b2)
  have d2 := d1.trans (b2.mono d1.size)
  clear rt b2 HB1 HS1 HSP d1
  go_wp2_with fail
  refine (HRM.out _ _ HT2.out).mono ?_; rintro e w3 ⟨m, rfl, rm, b3⟩
  obtain ⟨ma, mc, hm⟩ := spanRow_slice rm
  subst hm
  have HM3 := Lib.hid (spanSl_of_row rm)
  have HB3 := Lib.hid (spanSl_keep HB2.out b3)
  have HS3 := Lib.hid (spanSl_keep HS2.out b3)
  have d3 := Lib.hid (d2.trans (b3.mono d2.size))
  have HE3 := Lib.hid (HE.out.next d3.out)
  clear rm b3 HB2 HS2 HT2 HRM d2 HE
  obtain ⟨i1, hi1, hy0, hy1, hy2⟩ := info_parts infoRow
  obtain ⟨B, hBd⟩ : ∃ B, B = w3.heap.size := ⟨_, rfl⟩
  have HBd := Lib.hid hBd
  have hst : Hid (Six (w3.alloc (.cells #[] 22)) B (.slice (some ⟨w3.heap.size, 0, none⟩) 0 0) [] (C0 P M)) := Six.nil w3 B (Nat.le_of_eq hBd) _
  have hst2 : Hid (Below B w3 (w3.alloc (.cells #[] 22))) := by unfold Hid; rw [hBd]; exact (Below.refl _ _).alloc (Nat.le_refl _) _
  clear hBd
  go_wp2_with fail
  go_loopw [10, 11, 12, 13, 14] (fun V i _ _ _ wr => ∃ (k : Nat) (vs : List Value), k ≤ 3 ∧ i = .int .i64 k ∧ Hid (vs.length = 2 * k) ∧ Hid (Six wr B V vs (C0 P M)) ∧ Hid (Below B w3 wr)) (fun _ i _ _ _ _ => 3 - (intOf i).toNat)
  case atStart => exact ⟨0, [], by omega, rfl, rfl, hst, hst2⟩
  case round =>
    obtain ⟨k, vs, hk, rfl, hvl, hsix, hbw⟩ := hrel
    obtain ⟨wq, hwq⟩ : ∃ wq, wq = wr := ⟨wr, rfl⟩
    subst hwq
    obtain ⟨Va, Vc, hV⟩ := Six.slice hsix.out
    subst hV
    have hvn : vs.length ≤ 6 := by have := hvl.out; omega
    have hb3 : Below w3.heap.size w3 wq := by rw [← HBd.out]; exact hbw.out
    have HSq := Lib.hid (spanSl_keep HS3.out hb3)
    have HBq := Lib.hid (spanSl_keep HB3.out hb3)
    have HMq := Lib.hid (spanSl_keep HM3.out hb3)
    have HEq := Lib.hid (HE3.out.next hb3)
    have hBq : Hid (B ≤ wq.heap.size) := by unfold Hid; rw [HBd.out]; exact hb3.size
    clear hb3
    by_cases hlt : k < 3
    · go_wp2_with fail
      refine (HPA.out _ HEq.out).mono ?_; rintro e w4 ⟨x, rfl, rx, b4⟩
      obtain ⟨xa, xc, hx⟩ := spanRow_slice rx
      subst hx
      have RX4 := Lib.hid rx
      have HS4 := Lib.hid (spanSl_keep HSq.out b4)
      have HB4 := Lib.hid (spanSl_keep HBq.out b4)
      have HM4 := Lib.hid (spanSl_keep HMq.out b4)
      have B4 := Lib.hid b4
      clear rx b4 HSq HBq HMq
      go_wp2_with fail
      refine (HME.out _ HS4.out).mono ?_; rintro e w5 ⟨y, rfl, ry, b5⟩
      obtain ⟨ya, yc, hy⟩ := spanRow_slice ry
      subst hy
      have RY5 := Lib.hid ry
      have RX5 : Hid (SpanRow w5 wq.heap.size 33 _ P) := own_keep RX4.out b5 (Nat.le_refl _)
      have HB5 := Lib.hid (spanSl_keep HB4.out b5)
      have HM5 := Lib.hid (spanSl_keep HM4.out b5)
      have B5 := Lib.hid (B4.out.trans (b5.mono B4.out.size))
      have hxy : Hid (∀ k, (Value.slice xa P.length xc).ownBlock = some k → (Value.slice ya M.length yc).ownBlock ≠ some k) := fun k hk e => by
        have h1 := (World.ownsRow.lt RX4.out k hk).2
        have h2 := (World.ownsRow.lt RY5.out k e).1
        omega
      have hq4 := B4.out.size
      clear ry b5 RX4 HB4 HM4 HS4
      go_wp2_with fail
      refine (lsame_any _ _ P P _ (spanSl_of_row RX5.out) HB5.out hPm hPm).mono ?_; rintro e w6 ⟨rfl, b6⟩
      rw [decide_eq_true rfl]
      have RX6 : Hid (SpanRow w6 wq.heap.size 33 _ P) := own_keep RX5.out b6 (Nat.le_refl _)
      have RY6 : Hid (SpanRow w6 w4.heap.size 33 _ M) := own_keep RY5.out b6 (Nat.le_refl _)
      have HM6 := Lib.hid (spanSl_keep HM5.out b6)
      have B6 := Lib.hid (B5.out.trans (b6.mono B5.out.size))
      clear b6 RX5 RY5 HB5 HM5 B5
      go_wp2_with fail
      refine (lsame_any _ _ M M _ (spanSl_of_row RY6.out) HM6.out hMm hMm).mono ?_; rintro e w7 ⟨rfl, b7⟩
      rw [decide_eq_true rfl]
      have RX7 : Hid (SpanRow w7 wq.heap.size 33 _ P) := own_keep RX6.out b7 (Nat.le_refl _)
      have RY7 : Hid (SpanRow w7 wq.heap.size 33 _ M) := own_lower (own_keep RY6.out b7 (Nat.le_refl _)) hq4
      have B7 := Lib.hid (B6.out.trans (b7.mono B6.out.size))
      clear b7 RX6 RY6 HM6 B6
      have S7 := Lib.hid (hsix.out.next B7.out)
      have B7s := B7.out.size
      have hB7 : B ≤ w7.heap.size := Nat.le_trans hBq.out B7s
      go_wp2_with (at_builtin; refine append22 rfl _ _ 70 rfl B 22 i1 (.slice none 0 0) 24 Tryd.underlying70 hi1 hy0 hy1 hy2 rfl S7.out.own rfl (.slice xa P.length xc) (.slice ya M.length yc) rfl rfl rfl rfl ?_ ?_ ?_ ?_)
      · unfold maxLen; omega
      · omega
      · exact hB7
      intro g cg w8 hown hgrow hat b8
      have hsz7 : (w7.alloc (.cells #[.slice xa P.length xc, .slice ya M.length yc] 22)).heap.size = w7.heap.size + 1 := Array.size_push ..
      have S8 : Hid (Six w8 B (.slice (some ⟨g, 0, none⟩) (vs.length + 2) cg) (vs ++ [.slice xa P.length xc, .slice ya M.length yc]) (C0 P M)) := by
        have e1 : C0 P M vs.length = P := by rw [hvl.out]; exact C0_even P M k
        have e2 : C0 P M (vs.length + 1) = M := by rw [hvl.out]; exact C0_odd P M k
        refine Six.add hsix.out (B7.out.alloc B7s _) hBq.out ?_ ?_ hxy.out hown hgrow (by rw [hsz7]; exact hat)
        · rw [e1]; exact RX7.out.alloc _
        · rw [e2]; exact RY7.out.alloc _
      have D8 : Hid (Below B w3 w8) := (hbw.out.trans (B7.out.mono hBq.out)).trans b8
      clear hown hgrow hat b8
      go_wp2_with fail
      go_roundw
      case rel => exact ⟨k + 1, _, by omega, by go_num, by unfold Hid; rw [List.length_append, hvl.out]; simp; omega, S8, D8⟩
      case measure => simp [intOf]; omega
    · have hv6 : Hid (vs.length = 6) := by have := hvl.out; unfold Hid; omega
      obtain ⟨gv, hgv⟩ := Six.addr hsix.out (by have := hv6.out; omega)
      subst hgv
      clear hvl HSq HBq HMq HEq hBq
      go_wp2_with fail
      all_goals (try (exfalso; omega))
      go_loopw [15, 16] (fun i _ wr => ∃ (k : Nat) (C : Nat → List Sp), k ≤ vs.length ∧ i = .int .i64 k ∧ Hid (Six wr B (.slice (some ⟨gv, 0, none⟩) vs.length Vc) vs C) ∧ Hid (Below B w3 wr) ∧ Hid (∀ r, (C r).length = (C0 P M r).length) ∧ Hid (MarkedT C k 0)) (fun i _ _ => vs.length - (intOf i).toNat)
      case atStart => exact ⟨0, C0 P M, Nat.zero_le _, rfl, hsix, hbw, fun r => rfl, fun r q h => by omega⟩
      clear hsix hbw
      case round =>
        obtain ⟨k, C, hk, rfl, hsix, hbw, hlen, hmk⟩ := hrel
        obtain ⟨wq, hwq⟩ : ∃ wq, wq = wr := ⟨wr, rfl⟩
        subst hwq
        by_cases hlt : k < vs.length
        · have hmk0 := hmk.out
          go_wp2_with fail
          go_loopw [16] (fun j wr => ∃ (q : Nat) (C' : Nat → List Sp), q ≤ (C' k).length ∧ j = .int .i64 q ∧ Hid (Six wr B (.slice (some ⟨gv, 0, none⟩) vs.length Vc) vs C') ∧ Hid (Below B w3 wr) ∧ Hid (∀ r, (C' r).length = (C0 P M r).length) ∧ Hid (MarkedT C' k q)) (fun j _ => (C0 P M k).length - (intOf j).toNat)
          case atStart => exact ⟨0, C, Nat.zero_le _, rfl, hsix, hbw, hlen, hmk⟩
          clear hsix hbw hlen hmk
          case round =>
            obtain ⟨q, C', hq, rfl, hsix, hbw, hlen, hmk⟩ := hrel
            obtain ⟨wp, hwp⟩ : ∃ wp, wp = wr := ⟨wr, rfl⟩
            subst hwp
            obtain ⟨ak, ck, xV, hvk, hrow⟩ := Six.at_ hsix.out hlt
            have hle := HC.out k
            have hle2 := hlen.out k
            by_cases hq2 : q < (C' k).length
            · obtain ⟨gk, hgk, ⟨o0, y0⟩, ⟨o1, y1⟩, f0, f1⟩ := spanRow_at hrow hq2
              subst hgk
              have S9 := Lib.hid (Six.put hsix.out hvk hq2 (-7 - (k : Int)) (-1000 - (q : Int)))
              have hgb : Hid (B ≤ gk) := (World.ownsRow.lt hrow gk rfl).1
              have D9 := Lib.hid ((hbw.out.setCell (p := ⟨gk, q * 2, none⟩) hgb.out (.int .i64 (-7 - (k : Int)))).setCell (p := ⟨gk, q * 2 + 1, none⟩) hgb.out (.int .i64 (-1000 - (q : Int))))
              have hk6 : k ≤ 6 := by have := hv6.out; omega
              have hl9 : Hid (∀ r, ((fun r => if r = k then (C' k).set q (-7 - (k : Int), -1000 - (q : Int)) else C' r) r).length = (C0 P M r).length) := by
                intro r
                simp only []
                by_cases hr : r = k
                · rw [if_pos hr, List.length_set, hr]; exact hlen.out k
                · rw [if_neg hr]; exact hlen.out r
              have m9 := Lib.hid (MarkedT.put hmk.out hq2)
              obtain ⟨nk, hnk⟩ := name_it (C' k).length
              rw [hnk.out] at xV hq2 hle2
              have hle3 : nk ≤ 2097152 := by omega
              clear hrow hvk hle
              go_wp2_with fail
              go_roundw
              case rel =>
                refine ⟨q + 1, _, ?_, by go_num, S9, D9, hl9, m9⟩
                simp only []
                rw [if_pos trivial, List.length_set, hnk.out]
                exact hq2
              case measure => simp [intOf]; omega
            · have hqe : (C' k).length ≤ q := by omega
              have m9 := Lib.hid (MarkedT.next hmk.out hqe)
              obtain ⟨nk, hnk⟩ := name_it (C' k).length
              rw [hnk.out] at xV hq2
              clear hrow hvk hle hle2 hqe
              go_wp2_with fail
              go_roundw
              case rel => exact ⟨k + 1, C', by omega, by go_num, hsix, hbw, hlen, m9⟩
              case measure => simp [intOf]; omega
        · obtain rfl : k = vs.length := by omega
          have hmk2 : Hid (∀ r q, r < 6 → q < (C r).length → (C r)[q]? = some (-7 - (r : Int), -1000 - (q : Int))) := fun r q hr hq => hmk.out r q (Or.inl (by rw [hv6.out]; exact hr)) hq
          have hfar := Lib.hid hsix.out.far
          have hapart := Lib.hid hsix.out.apart
          have hhalf := Lib.hid hsix.out.half
          obtain ⟨i0, hi, hz0, hz1, hz2⟩ := info_parts infoSpan
          clear hmk hsix hi1 hy0 hy1 hy2
          go_wp2_with fail
          go_loopw [17, 18, 19] (fun i _ _ wr => ∃ (k : Nat), k ≤ vs.length ∧ i = .int .i64 k ∧ Hid (Half wr B (.slice (some ⟨gv, 0, none⟩) vs.length Vc) vs C k) ∧ Hid (Below B w3 wr)) (fun i _ _ _ => vs.length - (intOf i).toNat)
          case atStart => exact ⟨0, Nat.zero_le _, rfl, hhalf, hbw⟩
          clear hhalf hbw
          case round =>
            obtain ⟨k, hk, rfl, hhalf, hbw⟩ := hrel
            obtain ⟨wq, hwq⟩ : ∃ wq, wq = wr := ⟨wr, rfl⟩
            subst hwq
            by_cases hlt : k < vs.length
            · obtain ⟨ak, ck, xV, hvk, -⟩ := Half.at_ hhalf.out hlt
              have hG0 := Lib.hid (Half.begin hhalf.out hvk hfar.out hapart.out)
              clear hvk
              go_wp2_with fail
              go_loopw [18, 19] (fun g j wr => ∃ (q : Nat) (G : List Sp), q ≤ 20 ∧ j = .int .i64 q ∧ Hid (Grow wr B (.slice (some ⟨gv, 0, none⟩) vs.length Vc) vs C k g G) ∧ Hid (G.length = (C k).length + q) ∧ Hid (Below B w3 wr)) (fun _ j _ => 20 - (intOf j).toNat)
              case atStart => exact ⟨0, C k, by omega, rfl, hG0, rfl, hbw⟩
              clear hG0 hhalf hbw
              case round =>
                obtain ⟨q, G, hq, rfl, hG, hGl, hbw⟩ := hrel
                obtain ⟨wp, hwp⟩ : ∃ wp, wp = wr := ⟨wr, rfl⟩
                subst hwp
                obtain ⟨ga, gc, hg⟩ := spanRow_slice hG.out.grown
                subst hg
                have hle := HC.out k
                have hle2 := hlen.out k
                have hle3 := hGl.out
                have hGb : G.length ≤ 2097172 := by omega
                have hBp : B ≤ wp.heap.size := by rw [HBd.out]; exact hbw.out.size
                clear hle hle2 hle3
                by_cases hq2 : q < 20
                · go_wp2_with (at_builtin; refine append2k rfl _ _ 22 rfl B 33 i0 (.agg #[.int .i64 0, .int .i64 0]) 16 Tryd.underlying22 hi hz0 hz1 hz2 rfl hG.out.grown rfl (.int .i64 77) (.int .i64 88) rfl rfl rfl rfl ?_ ?_ ?_ ?_)
                  · unfold maxLen; omega
                  · omega
                  · exact hBp
                  intro g9 c9 w9 hown hgrow hat hkeep b9
                  have hsz : (wp.alloc (.cells #[.int .i64 77, .int .i64 88] 33)).heap.size = wp.heap.size + 1 := Array.size_push ..
                  have G9 := Lib.hid (Grow.next hG.out ((Below.refl _ _).alloc (Nat.le_refl _) _) hown hgrow (by rw [hsz]; exact hat) hkeep)
                  have D9 := Lib.hid (hbw.out.trans b9)
                  have L9 : Hid ((G ++ [((77 : Int), (88 : Int))]).length = (C k).length + (q + 1)) := by unfold Hid; rw [List.length_append, hGl.out]; rfl
                  clear hown hgrow hat hkeep b9
                  go_wp2_with fail
                  go_roundw
                  case rel => exact ⟨q + 1, _, by omega, by go_num, G9, L9, D9⟩
                  case measure => simp [intOf]; omega
                · have hH := Lib.hid hG.out.done
                  clear hGl
                  go_wp2_with fail
                  go_roundw
                  case rel => exact ⟨k + 1, by omega, by go_num, hH, hbw⟩
                  case measure => simp [intOf]; omega
            · obtain rfl : k = vs.length := by omega
              clear hi hz0 hz1 hz2 hfar hapart
              go_wp2_with fail
              go_loopw [20, 21] (fun i _ wr => ∃ (k : Nat), k ≤ vs.length ∧ i = .int .i64 k ∧ Hid (Half wr B (.slice (some ⟨gv, 0, none⟩) vs.length Vc) vs C vs.length) ∧ Hid (Below B w3 wr)) (fun i _ _ => vs.length - (intOf i).toNat)
              case atStart => exact ⟨0, Nat.zero_le _, rfl, hhalf, hbw⟩
              clear hhalf hbw
              case round =>
                obtain ⟨k, hk, rfl, hhalf, hbw⟩ := hrel
                obtain ⟨wq, hwq⟩ : ∃ wq, wq = wr := ⟨wr, rfl⟩
                subst hwq
                by_cases hlt : k < vs.length
                · go_wp2_with fail
                  go_loopw [21] (fun j wr => ∃ (q : Nat), q ≤ (C k).length ∧ j = .int .i64 q ∧ Hid (Half wr B (.slice (some ⟨gv, 0, none⟩) vs.length Vc) vs C vs.length) ∧ Hid (Below B w3 wr)) (fun j _ => (C k).length - (intOf j).toNat)
                  case atStart => exact ⟨0, Nat.zero_le _, rfl, hhalf, hbw⟩
                  clear hhalf hbw
                  case round =>
                    obtain ⟨q, hq, rfl, hhalf, hbw⟩ := hrel
                    obtain ⟨wp, hwp⟩ : ∃ wp, wp = wr := ⟨wr, rfl⟩
                    subst hwp
                    obtain ⟨ak, ck, xV, -, hread⟩ := Half.at_ hhalf.out hlt
                    have hk6 : k < 6 := by have := hv6.out; omega
                    have hle : (C k).length ≤ 2097152 := by have := HC.out k; have := hlen.out k; omega
                    by_cases hq2 : q < (C k).length
                    · obtain ⟨gk, ck2, hvv, hgk, c0, c1⟩ := hread.at_ hq2
                      have hm9 := hmk2.out k q hk6 hq2
                      rw [List.getElem?_eq_getElem hq2] at hm9
                      have hm9 := Option.some.inj hm9
                      rw [hm9] at c0 c1
                      injection hvv with hvv1 _ _
                      subst hvv1
                      obtain ⟨nk, hnk⟩ := name_it (C k).length
                      rw [hnk.out] at xV hq2 hle hq
                      clear hread hm9
                      go_wp2_with fail
                      all_goals (try (exfalso; omega))
                      go_roundw
                      case rel => exact ⟨q + 1, by rw [hnk.out]; omega, by go_num, hhalf, hbw⟩
                      case measure => rw [hnk.out]; simp [intOf]; omega
                    · obtain ⟨nk, hnk⟩ := name_it (C k).length
                      rw [hnk.out] at xV hq2 hle hq
                      clear hread
                      go_wp2_with fail
                      all_goals (try (exfalso; omega))
                      go_roundw
                      case rel => exact ⟨k + 1, by omega, by go_num, hhalf, hbw⟩
                      case measure => simp [intOf]; omega
                · obtain rfl : k = vs.length := by omega
                  have hb3 : Below w3.heap.size w3 wq := by rw [← HBd.out]; exact hbw.out
                  have HSq := Lib.hid (spanSl_keep HS3.out hb3)
                  have HBq := Lib.hid (spanSl_keep HB3.out hb3)
                  have HMq := Lib.hid (spanSl_keep HM3.out hb3)
                  have HEq := Lib.hid (HE3.out.next hb3)
                  have Dq := Lib.hid (d3.out.trans (hb3.mono d3.out.size))
                  clear hb3 hhalf hbw
                  go_wp2_with fail
                  refine (HPA.out _ HEq.out).mono ?_; rintro e w4 ⟨x, rfl, rx, b4⟩
                  obtain ⟨xa, xc, hx⟩ := spanRow_slice rx
                  subst hx
                  have HX4 := Lib.hid (spanSl_of_row rx)
                  have HS4 := Lib.hid (spanSl_keep HSq.out b4)
                  have HB4 := Lib.hid (spanSl_keep HBq.out b4)
                  have HM4 := Lib.hid (spanSl_keep HMq.out b4)
                  have HE4 := Lib.hid (HEq.out.next b4)
                  have D4 := Lib.hid (Dq.out.trans (b4.mono Dq.out.size))
                  clear rx b4 HSq HBq HMq Dq
                  go_wp2_with fail
                  refine (awake_any _ HE4.out).mono ?_; rintro e w5 ⟨rfl, b5⟩
                  have HX5 := Lib.hid (spanSl_keep HX4.out b5)
                  have HS5 := Lib.hid (spanSl_keep HS4.out b5)
                  have HB5 := Lib.hid (spanSl_keep HB4.out b5)
                  have HM5 := Lib.hid (spanSl_keep HM4.out b5)
                  have D5 := Lib.hid (D4.out.trans (b5.mono D4.out.size))
                  clear b5 HX4 HS4 HB4 HM4 D4
                  go_wp2_with fail
                  refine (lsame_any _ _ P P _ HX5.out HB5.out hPm hPm).mono ?_; rintro e w6 ⟨rfl, b6⟩
                  rw [decide_eq_true rfl]
                  have HS6 := Lib.hid (spanSl_keep HS5.out b6)
                  have HM6 := Lib.hid (spanSl_keep HM5.out b6)
                  have D6 := Lib.hid (D5.out.trans (b6.mono D5.out.size))
                  clear b6 HX5 HS5 HB5 HM5 D5
                  go_wp2_with fail
                  refine (HME.out _ HS6.out).mono ?_; rintro e w7 ⟨y, rfl, ry, b7⟩
                  obtain ⟨ya, yc, hy⟩ := spanRow_slice ry
                  subst hy
                  have HY7 := Lib.hid (spanSl_of_row ry)
                  have HM7 := Lib.hid (spanSl_keep HM6.out b7)
                  have D7 := Lib.hid (D6.out.trans (b7.mono D6.out.size))
                  clear ry b7 HS6 HM6 D6
                  go_wp2_with fail
                  refine (lsame_any _ _ M M _ HY7.out HM7.out hMm hMm).mono ?_; rintro e w8 ⟨rfl, b8⟩
                  rw [decide_eq_true rfl]
                  have D8 := D7.out.trans (b8.mono D7.out.size)
                  go_wp2_with fail
                  go_ret
                  exact ⟨rfl, D8⟩
end Go.Proofs.YtnodboggemggmaaDoor
