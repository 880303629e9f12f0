/- SpanPrints: the walk of the law; the document's spans of a list. -/
import Derived.Test.YtnodboggemggmaaDoorPrintB
import Derived.Test.YtnodboggemggmaaDoorSpanH
import Derived.Deep.RegionHeld3
import Derived.Deep.AppendLies
namespace Go.Proofs.YtnodboggemggmaaDoor
open Go Go.RowKit
set_option maxHeartbeats 2000000

/-- 'append(v, x)' at a step of a region that draws, x a struct of two cells, v of the call's own -/
theorem step_append2 {P : Program} {w : World} {ops : Array Oper} {o : Oper} {a : Act} {K : Act → World → Prop} {Q : Exit → Act → World → Prop} {E : Prop} (hgd : o.guard = none) (s x : Operand) (t : TypeId)
    (ho : o.op = .call { callee := .builtin .append, args := #[s, x], argTypes := #[t, t] })
    (base : Nat) (e : TypeId) (i : TypeInfo) (z : Value) (bytes : Nat) (ht : P.underlying t = some (.slice e)) (hi : P.info? e = some i) (hz : i.zero = some z)
    (hsize : i.size = 2) (hby : i.bytes = bytes) (hzs : z.cells.size = 2)
    {v : Value} {n : Nat} {xs : List Value} (hown : w.ownsRow base e 2 v n xs) (hs : a.eval s = v)
    (u1 u2 : Value) (hu1 : u1.oneCell' = true) (hu2 : u2.oneCell' = true) (hx : a.eval x = .slice (some ⟨w.heap.size, 0, none⟩) 1 1)
    (hn : n + 1 ≤ maxLen) (hbytes : (n + 1) * bytes ≤ 140737488355328) (hbase : base ≤ w.heap.size)
    (h : ∀ g cap w', base ≤ g → w'.ownsRow base e 2 (.slice (some ⟨g, 0, none⟩) (n + 1) cap) (n + 1) (xs ++ [u1, u2]) → Below base w w' → K (a.put o.dst (.slice (some ⟨g, 0, none⟩) (n + 1) cap)) w') :
    if Region.wanted o (yielded ops a.tmps) = true then Oper.wp P o a (w.alloc (.cells #[u1, u2] e)) K Q else E := by
  have hw : base ≤ (w.alloc (.cells #[u1, u2] e)).heap.size := by
    show base ≤ (w.heap.push _).size
    rw [Array.size_push]; omega
  refine step_append_lies (w.alloc (.cells #[u1, u2] e)) hgd s x t ho base e i z 2 bytes ht hi hz hsize hby hzs (by decide) v n xs hs (hown.alloc _) ⟨w.heap.size, 0, none⟩ 1 1 [u1, u2] hx rfl ?_ ?_ (by decide) hn hbytes hw _ rfl ?_
  · intro j y hj
    match j, hj with
    | 0, hj =>
      simp at hj; subst hj
      rw [Addr.add_lit]
      exact World.cell?_alloc_mark w #[u1, u2] e (0, 0) 0
    | 1, hj =>
      simp at hj; subst hj
      rw [Addr.add_lit]
      exact World.cell?_alloc_mark w #[u1, u2] e (0, 0) 1
  · intro y hy
    rcases List.mem_cons.1 hy with rfl | hy
    · exact hu1
    · rw [List.mem_singleton] at hy; subst hy; exact hu2
  · intro g cap w' hown' hgrow _ _
    refine h g cap w' ?_ hown' (((Below.refl _ _).alloc hbase _).trans (own_below (hown.alloc _) hgrow hw))
    exact (World.ownsRow.lt hown' g rfl).1

theorem take_snoc2 {l : List (Int × Int)} {k : Nat} (h : k < l.length) : l.take (k + 1) = l.take k ++ [(l[k].1, l[k].2)] := List.take_succ_eq_append_getElem h

set_option maxRecDepth 100000 in
theorem spans_any (v : Value) (l : List (Int × Int)) (w : World) (h : SpanSl w v l) (nl : l.length ≤ 1048576) :
    Calls Tryd.prog 28 #[v] w fun e w' => ∃ u, e = .returned u ∧ SpanRow w' w.heap.size 34 u l ∧ Below w.heap.size w w' := by
  obtain ⟨a, cap, rfl, hc⟩ := h
  have HA := Lib.hid hc
  clear hc
  obtain ⟨i0, hi, hz0, hz1, hz2⟩ := info_parts infoSpanR
  go_enter Tryd.func28, Tryd.ntmps28
  go_wp2_with fail
  go_loopw [3, 4] (fun out i wr => ∃ k : Nat, k ≤ l.length ∧ i = .int .i64 k ∧ Hid (SpanRow wr w.heap.size 34 out (l.take k)) ∧ Below w.heap.size w wr) (fun _ i _ => l.length - (intOf i).toNat)
  case atStart => exact ⟨0, Nat.zero_le _, rfl, World.ownsRow_lit w #[] 0 (Nat.le_refl _) (by unfold maxLen; omega) rfl, (Below.refl _ _).alloc (Nat.le_refl _) _⟩
  case round =>
    obtain ⟨k, hk, rfl, hrow, hbr⟩ := hrel
    have hBr := hbr.size
    have hlen : (l.take k).length = k := by simp; omega
    by_cases hlt : k < l.length
    · obtain ⟨ga, oa, rfl, hga, ha1, ha2⟩ := HA.out k hlt
      have hst := take_snoc2 hlt
      obtain ⟨p1, hp1⟩ := name_it l[k].1
      obtain ⟨p2, hp2⟩ := name_it l[k].2
      rw [hp1.out] at ha1 hst; rw [hp2.out] at ha2 hst
      rw [← hbr.cell (p := ⟨ga, _, none⟩) hga] at ha1 ha2
      have HST := Lib.hid hst
      clear hst
      have b1 : (0 : Int) ≤ (k : Int) := by omega
      have b2 : (k : Int) < (l.length : Int) := by omega
      have hrow2 : Hid (SpanRow wr.drew w.heap.size 34 _ (l.take k)) := own_keep hrow.out ((Below.refl _ _).drew) (Nat.le_refl _)
      have hbr2 := hbr.trans ((Below.refl w.heap.size wr).drew)
      have hBr2 := hbr2.size
      go_wp2_with fail
      go_region_held3 (fun w' => w'.cell? ⟨ga, oa + k * 2, none⟩ = some (.int .i64 p1) ∧ w'.cell? ⟨ga, oa + k * 2 + 1, none⟩ = some (.int .i64 p2))
        (first | go_keep | exact ⟨(hb7.cell (p := ⟨ga, _, none⟩) hga).trans ha1, (hb7.cell (p := ⟨ga, _, none⟩) hga).trans ha2⟩)
        ((refine step_append2 (by rfl) _ _ 26 (by rfl) w.heap.size 34 i0 (.agg #[.int .i64 0, .int .i64 0]) 16 Tryd.underlying26 hi hz0 hz1 hz2 rfl hrow2.out (by rfl) (.int .i64 p1) (.int .i64 p2) rfl rfl (by rfl) (by unfold maxLen; omega) (by omega) hBr2 ?_; intro g7 cap7 w7 hg7 hown7 hb7))
      have hrow7 : Hid (SpanRow w7 w.heap.size 34 (.slice (some ⟨g7, 0, none⟩) (k + 1) cap7) (l.take (k + 1))) := by
        have h8 := spanRow_snoc (l := l.take k) (a := p1) (b := p2) hown7
        rw [hlen] at h8
        unfold Hid; rw [HST.out]; exact h8
      have d7 := hbr2.trans hb7
      clear hown7
      go_wp2_with fail
      go_roundw
      case rel => exact ⟨k + 1, by omega, by go_num, hrow7, d7⟩
      case measure => simp [intOf]; omega
    · obtain rfl : k = l.length := by omega
      have hr2 := hrow.out
      rw [List.take_length] at hr2
      have HR2 := Lib.hid hr2
      clear hr2
      go_wp2_with fail
      go_ret
      exact ⟨_, rfl, HR2.out, hbr⟩

theorem printE_cases (l : List (Int × Int)) (size : Int) : printE l size = 0 ∨ printE l size = 1 ∨ printE l size = 91 := by
  unfold printE; split
  · exact Or.inr (Or.inl rfl)
  · split
    · exact Or.inr (Or.inr rfl)
    · exact Or.inl rfl
theorem printL_le {l : List (Int × Int)} {size : Int} (h : printE l size = 0) (hz : size ≤ 9223372036854775807) : (printL l).length ≤ 6 + 46 * l.length := by
  have ha : areO l size = true := by
    unfold printE at h
    split at h
    · exact absurd h (by decide)
    · split at h
      · exact absurd h (by decide)
      · rename_i hl
        cases hq : areO l size
        · exact absurd (Or.inr hq) hl
        · rfl
  have := accP_le (l := l) (size := size) (k := l.length) (by rw [List.take_length]; exact ha) hz
  unfold accP at this
  rw [List.take_length] at this
  exact this

set_option maxRecDepth 100000 in
theorem lawPrints_any (v : Value) (l : List (Int × Int)) (size : Int) (w : World) (hE : EnvP w) (h : SpanSl w v l) (nl : l.length ≤ 1048576) (hz : size ≤ 9223372036854775807) :
    Calls Tryd.prog 9 #[v, .int .i64 size] w fun e w' => e = .returned (.bool true) ∧ Below w.heap.size w w' := by
  have HE := Lib.hid hE; clear hE
  have HS := Lib.hid h
  have hspans := spans_any v l w h nl
  have HSP := Lib.hid hspans
  obtain ⟨a, cap, hva, _⟩ := h
  subst hva
  have hback := parse_print l size
  have hpl := fun h0 => printL_le (l := l) (size := size) h0 hz
  have hcs := printE_cases l size
  have hpv : Hid (printV l size = .tuple #[.string (printT l size), .int .i64 (printE l size)]) := rfl
  have hpt : Hid (printE l size = 0 → printT l size = bs (printL l)) := fun h0 => if_pos h0
  obtain ⟨X, hX⟩ := name_it (printE l size)
  obtain ⟨T, hT⟩ := name_it (printT l size)
  rw [hX.out] at hback hpl hcs hpv hpt
  rw [hT.out] at hpv hpt
  have HBACK := Lib.hid hback
  have HPL := Lib.hid hpl
  clear hspans hback hpl hX hT
  go_enter Tryd.func9, Tryd.ntmps9
  go_wp2_with fail
  refine HSP.out.mono ?_; rintro e w1 ⟨u, rfl, hrow, hb1⟩
  obtain ⟨ua, ucap, hu⟩ := spanRow_slice hrow
  subst hu
  have hs1 := spanSl_of_row hrow
  have HS1 := Lib.hid hs1
  have HE1 := Lib.hid (HE.out.next hb1)
  have HV1 := Lib.hid (spanSl_keep HS.out hb1)
  clear hrow hs1 HSP
  go_wp2_with fail
  refine (print_any _ l size _ HE1.out HV1.out nl hz).mono ?_; rintro e w2 ⟨rfl, hb2⟩
  rw [hpv.out]
  have HS2 := Lib.hid (spanSl_keep HS1.out hb2)
  have HE2 := Lib.hid (HE1.out.next hb2)
  have HV2 := Lib.hid (spanSl_keep HV1.out hb2)
  have d2 := hb1.trans (hb2.mono hb1.size)
  clear hb2 hb1 HS1 HV1
  go_wp2_with fail
  refine (rprint_any _ l size _ HE2.out HS2.out nl hz).mono ?_; rintro e w3 ⟨rfl, hb3⟩
  rw [hpv.out]
  have HS3 := Lib.hid (spanSl_keep HS2.out hb3)
  have HE3 := Lib.hid (HE2.out.next hb3)
  have HV3 := Lib.hid (spanSl_keep HV2.out hb3)
  have d3 := d2.trans (hb3.mono d2.size)
  clear hb3 d2 HS2 HV2
  go_wp2_with fail
  refine (awake_any _ HE3.out.env).mono ?_; rintro e w4 ⟨rfl, hb4⟩
  have HS4 := Lib.hid (spanSl_keep HS3.out hb4)
  have HE4 := Lib.hid (HE3.out.next hb4)
  have HV4 := Lib.hid (spanSl_keep HV3.out hb4)
  have d4 := d3.trans (hb4.mono d3.size)
  clear hb4 d3 HS3 HV3
  go_wp2_with fail
  all_goals (try (exfalso; omega))
  refine (lsame_any _ _ l l _ HV4.out HS4.out (by unfold maxLen; omega) (by unfold maxLen; omega)).mono ?_; rintro e w5 ⟨rfl, hb5⟩
  rw [decide_eq_true rfl]
  have HS5 := Lib.hid (spanSl_keep HS4.out hb5)
  have HE5 := Lib.hid (HE4.out.next hb5)
  have d5 := d4.trans (hb5.mono d4.size)
  clear hb5 d4 HS4 HV4
  by_cases hx : X = 0
  · by_cases hbig : 4611686018427387904 < size
    · go_wp2_with fail
      all_goals (try (exfalso; omega))
      go_ret
      exact ⟨rfl, d5⟩
    · obtain ⟨q1, q2⟩ := HBACK.out hx (by omega)
      have hTs := hpt.out hx
      have hle := HPL.out hx
      subst hTs
      have hsz : (bs (printL l)).size ≤ 6 + 46 * l.length := by rw [size_bs]; exact hle
      have hL : Hid (L (bs (printL l)) = printL l) := L_bs _
      have Q1 := Lib.hid q1
      have Q2 := Lib.hid q2
      clear q1 q2 hle
      go_wp2_with fail
      all_goals (try (exfalso; omega))
      refine (parse_any (bs (printL l)) size _ HE5.out.env (by omega) hz).mono ?_
      intro e w6 hres
      obtain ⟨pv, he, hprow, hb6⟩ := hres
      subst he
      rw [hL.out, Q1.out]
      rw [hL.out, Q2.out] at hprow
      obtain ⟨pa, pcap, hpa⟩ := spanRow_slice hprow
      subst hpa
      have HP6 := Lib.hid (spanSl_of_row hprow)
      have HS6 := Lib.hid (spanSl_keep HS5.out hb6)
      have d6 := d5.trans (hb6.mono d5.size)
      clear hprow hb6
      go_wp2_with fail
      all_goals (try (exfalso; omega))
      refine (lsame_any _ _ l l _ HP6.out HS6.out (by unfold maxLen; omega) (by unfold maxLen; omega)).mono ?_; rintro e w7 ⟨rfl, hb7⟩
      rw [decide_eq_true rfl]
      have d7 := d6.trans (hb7.mono d6.size)
      go_wp2_with fail
      go_ret
      exact ⟨rfl, d7⟩
  · go_wp2_with fail
    all_goals (try (exfalso; omega))
    go_ret
    exact ⟨rfl, d5⟩
end Go.Proofs.YtnodboggemggmaaDoor
