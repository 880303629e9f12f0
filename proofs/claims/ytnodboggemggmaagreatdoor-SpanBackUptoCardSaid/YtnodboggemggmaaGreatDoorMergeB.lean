/- Contract of span: spans merged. -/
import Derived.Test.YtnodboggemggmaaGreatDoorMergeA
import Derived.BigQuiet
import Derived.Laws.OwnMore
import Derived.OwnWalk
import Derived.BigRegion
import Derived.Laws.CopyOwn
namespace Go.Proofs.YtnodboggemggmaaGreatDoor
open Go Go.RowKit
set_option maxHeartbeats 2000000

/-- 'copy(dst, src)' of structs of two cells: dst a row that is known whole, src as long -/
theorem run_copy2 {P : Program} {w : World} (dT sT ty elem : TypeId) (hu : P.underlying dT = some (.slice elem)) (hs : (P.info? elem).map (·.size) = some 2)
    (g n dCap sCap : Nat) (sp : Option Addr) (cur : Array Value) (t : TypeId) (hg : w.heap[g]? = some (.cells cur t (0, 0))) (hcur : cur.size = n * 2) (cs : List Value) (hlen : cs.length = n * 2)
    (hsrc : 0 < n → ∃ ad, sp = some ad ∧ ∀ j v, cs[j]? = some v → w.cell? (ad.add j) = some v) (h1 : ∀ v ∈ cs, v.oneCell' = true) :
    (Builtin.copy_ #[dT, sT] ty #[.slice (some ⟨g, 0, none⟩) n dCap, .slice sp n sCap]).run P w = .ok (goInt n) (w.setRow g cs.toArray) := by
  obtain ⟨i, hi, hi2⟩ := Option.map_eq_some_iff.1 hs
  have hf : (Builtin.firstCells 2 n (.slice sp n sCap)).run P w = .ok cs.toArray w := by
    cases sp with
    | none =>
      have h0 : n = 0 := by
        rcases Nat.eq_zero_or_pos n with h | h
        · exact h
        · obtain ⟨ad, h2, _⟩ := hsrc h; cases h2
      subst h0
      have : cs = [] := List.eq_nil_of_length_eq_zero (by omega)
      subst this
      exact run_firstCells_none w 2 0 0 sCap
    | some ad =>
      refine run_firstCells_some w 2 n ad n sCap cs hlen ?_
      intro j v hj
      rcases Nat.eq_zero_or_pos n with h | h
      · subst h
        have : cs = [] := List.eq_nil_of_length_eq_zero (by omega)
        subst this; simp at hj
      · obtain ⟨ad', h2, h3⟩ := hsrc h
        cases h2
        exact h3 j v hj
  have hst := run_storeCells_at P g 0 t cs 0 cur w hg (by omega) h1
  have e1 : (List.take (0 + 0) cur.toList ++ cs ++ List.drop (0 + 0 + cs.length) cur.toList).toArray = cs.toArray := by
    rw [List.drop_of_length_le (by simp; omega)]; simp
  rw [e1] at hst
  simp [Builtin.copy_, run_underlying hu, Builtin.lenOf, sizeOf, typeInfo, hi, hi2, hf, hst]
theorem cellsS_len (l : List (Int × Int)) : (cellsS l).length = l.length * 2 := by
  induction l with
  | nil => rfl
  | cons x l ih => simp [cellsS, encS] at *; omega
theorem cellsS_one (l : List (Int × Int)) : ∀ v ∈ cellsS l, v.oneCell' = true := by
  intro v hv
  obtain ⟨x, _, hx⟩ := List.mem_flatMap.1 hv
  exact encS_one x v hx
theorem cellsS_at {l : List (Int × Int)} {j : Nat} {v : Value} (h : (cellsS l)[j]? = some v) : ∃ hj : j / 2 < l.length, (j % 2 = 0 ∧ v = .int .i64 l[j / 2].1) ∨ (j % 2 = 1 ∧ v = .int .i64 l[j / 2].2) := by
  have hj : j < (cellsS l).length := (List.getElem?_eq_some_iff.1 h).1
  rw [cellsS_len] at hj
  have hk : j / 2 < l.length := by omega
  refine ⟨hk, ?_⟩
  obtain ⟨c1, c2⟩ := cellsS_get l _ _ (List.getElem?_eq_getElem hk)
  rcases Nat.mod_two_eq_zero_or_one j with hm | hm
  · left
    have : 2 * (j / 2) = j := by omega
    rw [this, h] at c1
    exact ⟨hm, Option.some.inj c1⟩
  · right
    have : 2 * (j / 2) + 1 = j := by omega
    rw [this, h] at c2
    exact ⟨hm, Option.some.inj c2⟩
/-- the cells of a slice of spans, as a copy wants them -/
theorem spanSl_src {w : World} {a : Option Addr} {l : List (Int × Int)} (h : ∀ j (hj : j < l.length), ∃ g off, a = some ⟨g, off, none⟩ ∧ g < w.heap.size ∧ w.cell? ⟨g, off + j * 2, none⟩ = some (.int .i64 l[j].1) ∧ w.cell? ⟨g, off + j * 2 + 1, none⟩ = some (.int .i64 l[j].2)) :
    0 < l.length → ∃ ad, a = some ad ∧ ∀ j v, (cellsS l)[j]? = some v → w.cell? (ad.add j) = some v := by
  intro hl
  obtain ⟨g, off, ha, _, _, _⟩ := h 0 hl
  refine ⟨_, ha, fun j v hv => ?_⟩
  obtain ⟨hj, hh⟩ := cellsS_at hv
  obtain ⟨g', off', ha', _, h1, h2⟩ := h (j / 2) hj
  rw [ha] at ha'
  cases ha'
  rw [Addr.add_lit]
  rcases hh with ⟨hm, rfl⟩ | ⟨hm, rfl⟩
  · have : off + j / 2 * 2 = off + j := by omega
    rw [this] at h1; exact h1
  · have : off + j / 2 * 2 + 1 = off + j := by omega
    rw [this] at h2; exact h2
theorem mfold_le (l : List (Int × Int)) : ∀ k, ((l.take k).foldl mstep []).length ≤ k := by
  have : ∀ (l out : List (Int × Int)), (l.foldl mstep out).length ≤ out.length + l.length := by
    intro l
    induction l with
    | nil => intro out; simp
    | cons x l ih =>
      intro out
      rw [List.foldl_cons]
      have h1 := ih (mstep out x)
      have h2 : (mstep out x).length ≤ out.length + 1 := by
        unfold mstep
        split
        · omega
        · split
          · simp
          · split
            · omega
            · split <;> simp
      simp; omega
  intro k
  have := this (l.take k) []
  simp at this; omega

theorem cellsS_last (o : List (Int × Int)) (y : Int × Int) : cellsS (o ++ [y]) = cellsS o ++ [.int .i64 y.1, .int .i64 y.2] := by simp [cellsS, encS]
theorem spanRow_last {w : World} {b e : Nat} {v : Value} {o : List (Int × Int)} {y : Int × Int} (h : SpanRow w b e v (o ++ [y])) :
    ∃ g cap, v = .slice (some ⟨g, 0, none⟩) (o.length + 1) cap ∧ b ≤ g ∧ g < w.heap.size ∧ w.cell? ⟨g, o.length * 2, none⟩ = some (.int .i64 y.1) ∧ w.cell? ⟨g, o.length * 2 + 1, none⟩ = some (.int .i64 y.2) := by
  have hl : (o ++ [y]).length = o.length + 1 := by simp
  rcases h.2 with ⟨_, h0⟩ | ⟨g, cap, cur, hv, hg, _⟩
  · omega
  · subst hv
    have e1 := World.ownsRow.cellAt h (o.length * 2) (by omega)
    have e2 := World.ownsRow.cellAt h (o.length * 2 + 1) (by omega)
    rw [cellsS_last] at e1 e2
    have lc := cellsS_len o
    rw [List.getElem?_append_right (by omega)] at e1 e2
    refine ⟨g, cap, by rw [hl], hg, (World.ownsRow.lt h g rfl).2, ?_, ?_⟩
    · rw [e1, lc]; simp
    · rw [e2, lc]; simp
theorem spanRow_set {w : World} {b e g cap : Nat} {o : List (Int × Int)} {y : Int × Int} (h : SpanRow w b e (.slice (some ⟨g, 0, none⟩) (o.length + 1) cap) (o ++ [y])) (z : Int) :
    SpanRow (w.setCell ⟨g, o.length * 2 + 1, none⟩ (.int .i64 z)) b e (.slice (some ⟨g, 0, none⟩) (o.length + 1) cap) (o ++ [(y.1, z)]) := by
  have hl : (o ++ [y]).length = o.length + 1 := by simp
  have hl2 : (o ++ [(y.1, z)]).length = o.length + 1 := by simp
  unfold SpanRow at h ⊢
  rw [hl] at h
  have := (World.ownsRow.stored h (o.length * 2 + 1) (.int .i64 z)).1
  have lc := cellsS_len o
  have e : (cellsS (o ++ [y])).set (o.length * 2 + 1) (.int .i64 z) = cellsS (o ++ [(y.1, z)]) := by
    rw [cellsS_last, cellsS_last, List.set_append_right _ _ (by omega), lc]
    simp
  rw [e] at this
  rw [hl2]
  exact this

set_option maxRecDepth 100000 in
theorem merge_any (v : Value) (l : List (Int × Int)) (w : World) (h : SpanSl w v l) (nl : l.length ≤ 1048576) :
    Calls Tryz.prog 7 #[v] w fun e w' => ∃ u, e = .returned u ∧ SpanRow w' w.heap.size 38 u (rmergeS l) ∧ Below w.heap.size w w' := by
  obtain ⟨a, cap, rfl, hc⟩ := h
  have hsrc := spanSl_src hc
  have HSRC := Lib.hid hsrc
  obtain ⟨i0, hi, hz0, hz1, hz2⟩ := info_parts infoSpan
  have hinf : (Tryz.prog.info? 38).map (·.size) = some 2 := by rw [hi]; simp [hz1]
  clear hc hsrc
  go_enter Tryz.func7, Tryz.ntmps7
  go_wp2_with (at_make; refine wpList_make_full _ rfl _ _ 22 rfl w.heap.size 38 i0 (.agg #[.int .i64 0, .int .i64 0]) 2 Tryz.underlying22 hi hz0 hz1 _ _ _ _ l.length rfl rfl rfl rfl (by rw [hz2]; omega) (by unfold maxLen; omega) (Nat.le_refl _) ?_)
  intro w1 hown1 hgrow1
  have d1 : Below w.heap.size w w1 := (Below.refl _ _).grown hgrow1 (Nat.le_refl _) (fun k hk => by cases hk)
  obtain ⟨cur, hg1, hcur⟩ : ∃ cur, w1.heap[w.heap.size]? = some (.cells cur 38 (0, 0)) ∧ cur.size = l.length * 2 := by
    rcases hown1.2 with ⟨h', _⟩ | ⟨g', cap', cur, h', hb, hg, hnc, hcm, hcs, htake⟩
    · simp at h'
    · simp only [Value.slice.injEq, Option.some.injEq, Addr.mk.injEq, and_true, true_and] at h'
      obtain ⟨rfl, rfl⟩ := h'
      exact ⟨cur, hg, hcs⟩
  have hsrc1 : 0 < l.length → ∃ ad, a = some ad ∧ ∀ j v, (cellsS l)[j]? = some v → w1.cell? (ad.add j) = some v := by
    intro hl
    obtain ⟨ad, h1, h2⟩ := HSRC.out hl
    refine ⟨ad, h1, fun j v hv => ?_⟩
    have h3 := h2 j v hv
    rw [← h3]
    refine d1.cell ?_
    rcases Nat.lt_or_ge (ad.add j).block w.heap.size with h | h
    · exact h
    · simp [World.cell?, Array.getElem?_eq_none h] at h3
  have HS1 := Lib.hid hsrc1
  clear hown1 hgrow1 hsrc1 HSRC
  have hcp := run_copy2 (P := Tryz.prog) 22 22 3 38 Tryz.underlying22 hinf w.heap.size l.length l.length cap a cur 38 hg1 hcur (cellsS l) (cellsS_len l) HS1.out (cellsS_one l)
  have hg2 := setRow_heap w1 w.heap.size cur (cellsS l).toArray 38 (0, 0) hg1
  have d2 := below_setRow d1 (Nat.le_refl _) (cellsS l).toArray
  obtain ⟨w2, hw2⟩ : ∃ w2, w2 = w1.setRow w.heap.size (cellsS l).toArray := ⟨_, rfl⟩
  rw [← hw2] at hg2 d2 hcp
  have hsort := sort_any w.heap.size l w2 hg2 nl
  have HSORT := Lib.hid hsort
  have hg2l : w.heap.size < w2.heap.size := (Array.getElem?_eq_some_iff.1 hg2).1
  clear hg1 hg2 hw2 hsort HS1 d1 hcur hinf
  go_wp2_with fail
  refine HSORT.out.mono ?_
  rintro e w3 ⟨rfl, l2, hperm, hpw, hcells, hbel⟩
  have d3 := d2.trans (hbel w.heap.size (Nat.le_refl _) d2.size)
  have hres : Hid (mergeS l2 = rmergeS l) := merge_same hpw hperm
  have hl2 : l2.length = l.length := hperm.length_eq
  have hgl : w.heap.size < w3.heap.size := by
    exact Nat.lt_of_lt_of_le hg2l (hbel w.heap.size (Nat.le_refl _) d2.size).size
  have HC := Lib.hid hcells
  clear hcells hbel hperm hpw HSORT d2 hcp hg2l
  obtain ⟨B, hBd⟩ : ∃ B, Hid (B = w3.heap.size) := ⟨_, rfl⟩
  have hBw : B ≤ w3.heap.size := by rw [hBd.out]; exact Nat.le_refl _
  have hgB : w.heap.size < B := by rw [hBd.out]; exact hgl
  go_wp2_with fail
  go_loopw [4, 18] (fun out i wr => ∃ k : Nat, k ≤ l.length ∧ i = .int .i64 k ∧ Hid (SpanRow wr B 38 out ((l2.take k).foldl mstep [])) ∧ Below B w3 wr) (fun _ i _ => l.length - (intOf i).toNat)
  case atStart => exact ⟨0, Nat.zero_le _, rfl, spanRow_nil _ _ _, Below.refl _ _⟩
  case round =>
    obtain ⟨k, hk, rfl, hrow, hbr⟩ := hrel
    have hBr := Nat.le_trans hBw hbr.size
    have haccl := mfold_le l2 k
    by_cases hlt : k < l.length
    · have hlt2 : k < l2.length := by omega
      obtain ⟨ha1, ha2⟩ := HC.out k hlt2
      have hst : (l2.take (k + 1)).foldl mstep [] = mstep ((l2.take k).foldl mstep []) l2[k] := by
        rw [List.take_succ_eq_append_getElem hlt2, List.foldl_append]; rfl
      obtain ⟨p1, hp1⟩ := name_it l2[k].1
      obtain ⟨p2, hp2⟩ := name_it l2[k].2
      have hpe : l2[k] = (p1, p2) := Prod.ext hp1.out hp2.out
      rw [hp1.out] at ha1; rw [hp2.out] at ha2
      rw [hpe] at hst
      rw [← hbr.cell (p := ⟨w.heap.size, _, none⟩) hgB] at ha1 ha2
      obtain ⟨acc, hacc⟩ := name_it ((l2.take k).foldl mstep [])
      rw [hacc.out] at hrow hst haccl
      obtain ⟨va, vc, hv⟩ := spanRow_slice hrow.out
      subst hv
      have HST := Lib.hid hst
      clear hst hp1 hp2 hpe hacc
      by_cases he : p2 ≤ p1
      · have hs2 : Hid ((l2.take (k + 1)).foldl mstep [] = acc) := by rw [HST.out]; exact mstep_empty he
        have hrow2 : Hid (SpanRow (wr.alloc (.cells #[.int .i64 p1, .int .i64 p2] 38)) B 38 (.slice va acc.length vc) acc) := hrow.out.alloc _
        have hbr2 := hbr.alloc hBr (.cells #[.int .i64 p1, .int .i64 p2] 38)
        have hc0 : (wr.alloc (.cells #[.int .i64 p1, .int .i64 p2] 38)).cell? ⟨wr.heap.size, 0, none⟩ = some (.int .i64 p1) := World.cell?_alloc_mark wr #[.int .i64 p1, .int .i64 p2] 38 (0, 0) 0
        have hc1 : (wr.alloc (.cells #[.int .i64 p1, .int .i64 p2] 38)).cell? ⟨wr.heap.size, 1, none⟩ = some (.int .i64 p2) := World.cell?_alloc_mark wr #[.int .i64 p1, .int .i64 p2] 38 (0, 0) 1
        go_wp2_with fail
        go_quiet (fail)
        go_wp2_with fail
        go_roundw
        case rel => exact ⟨k + 1, by omega, by go_num, by rw [hs2.out]; exact own_keep hrow2.out (below_drewN (Below.refl _ _) _) (Nat.le_refl _), below_drewN hbr2 _⟩
        case measure => simp [intOf]; omega
      · have hp12 : p1 < p2 := by omega
        clear he
        have hrow2 : Hid (SpanRow (wr.alloc (.cells #[.int .i64 p1, .int .i64 p2] 38)) B 38 (.slice va acc.length vc) acc) := hrow.out.alloc _
        have hbr2 := hbr.alloc hBr (.cells #[.int .i64 p1, .int .i64 p2] 38)
        have hc0 : (wr.alloc (.cells #[.int .i64 p1, .int .i64 p2] 38)).cell? ⟨wr.heap.size, 0, none⟩ = some (.int .i64 p1) := World.cell?_alloc_mark wr #[.int .i64 p1, .int .i64 p2] 38 (0, 0) 0
        have hc1 : (wr.alloc (.cells #[.int .i64 p1, .int .i64 p2] 38)).cell? ⟨wr.heap.size, 1, none⟩ = some (.int .i64 p2) := World.cell?_alloc_mark wr #[.int .i64 p1, .int .i64 p2] 38 (0, 0) 1
        rcases List.eq_nil_or_concat acc with hac | ⟨o, y, hac⟩
        · subst hac
          have hs2 : Hid ((l2.take (k + 1)).foldl mstep [] = [(p1, p2)]) := by rw [HST.out]; exact mstep_nil hp12
          simp only [List.length_nil] at *
          clear HST hrow
          go_wp2_with fail
          go_quiet (fail)
          go_wp2_with fail
          go_quiet (fail)
          go_wp2_with (at_builtin; refine append2 rfl _ _ 22 rfl B 38 i0 (.agg #[.int .i64 0, .int .i64 0]) 16 Tryz.underlying22 hi hz0 hz1 hz2 rfl (own_keep hrow2.out (below_drewN (Below.refl _ _) _) (Nat.le_refl _)) rfl (.int .i64 p1) (.int .i64 p2) rfl rfl rfl (Array.size_push _).symm (by unfold maxLen; simp) (by simp) (Nat.le_trans hBr (by show _ ≤ (wr.heap.push _).size; rw [Array.size_push]; omega)) ?_)
          intro g7 cap7 w7 hg7 hown7 hb7
          have hrow7 : Hid (SpanRow w7 B 38 (.slice (some ⟨g7, 0, none⟩) 1 cap7) ((l2.take (k + 1)).foldl mstep [])) := by
            rw [hs2.out]; exact hown7
          have hbr7 := (below_drewN hbr2 _).trans hb7
          clear hown7
          go_wp2_with fail
          go_roundw
          case rel => exact ⟨k + 1, by omega, by go_num, hrow7, hbr7⟩
          case measure => simp [intOf]; omega
        · rw [List.concat_eq_append] at hac
          subst hac
          obtain ⟨g7, c7, hv7, hbg, hg7, hy1, hy2⟩ := spanRow_last hrow.out
          injection hv7 with hva _ hvc
          subst hva hvc
          have hms := mstep_snoc (o := o) (x := (p1, p2)) (y := y) hp12
          obtain ⟨y1, y2⟩ := y
          have hol : o.length + 1 ≤ k := by simpa using haccl
          have HST2 := Lib.hid (HST.out.trans hms)
          simp only [List.length_append, List.length_singleton] at *
          have hne : g7 ≠ wr.heap.size := by omega
          have hfz : (wr.alloc (.cells #[.int .i64 p1, .int .i64 p2] 38)).frozen? ⟨g7, o.length * 2 + 1, none⟩ = false := by
            have h9 := hrow2.out
            unfold SpanRow at h9
            simp only [List.length_append, List.length_singleton] at h9
            exact World.ownsRow.frozenAt h9 _
          rw [← (((Below.refl wr.heap.size wr).alloc (Nat.le_refl _) (.cells #[.int .i64 p1, .int .i64 p2] 38)).cell (p := ⟨g7, _, none⟩) hg7)] at hy1 hy2
          have b1 : (0 : Int) ≤ (o.length : Int) := by omega
          have b2 : (o.length : Int) < (o.length : Int) + 1 := by omega
          clear HST hms hrow haccl
          by_cases h1 : p1 = y1
          · by_cases h2 : p2 = y2
            · have hs2 : Hid ((l2.take (k + 1)).foldl mstep [] = o ++ [(y1, y2)]) := by rw [HST2.out, if_pos (by rw [h1, h2])]; rfl
              subst h1 h2
              go_wp2_with fail
              go_quiet (fail)
              go_wp2_with fail
              go_roundw
              case rel => exact ⟨k + 1, by omega, by go_num, by rw [hs2.out]; exact own_keep hrow2.out (below_drewN (Below.refl _ _) _) (Nat.le_refl _), below_drewN hbr2 _⟩
              case measure => simp [intOf]; omega
            · subst h1
              have hxy : ¬ ((p1, p2) : Int × Int) = (p1, y2) := by
                intro e
                injection e with e1 e2
                exact h2 e2
              rw [if_neg hxy] at HST2
              by_cases hc : p1 ≤ y2
              · have hz : Hid ((l2.take (k + 1)).foldl mstep [] = o ++ [(p1, max y2 p2)]) := by
                  have hmx : (if y2 < p2 then p2 else y2) = max y2 p2 := by split <;> omega
                  rw [HST2.out, if_pos hc]
                  show o ++ [(p1, if y2 < p2 then p2 else y2)] = _
                  rw [hmx]
                clear HST2 hxy
                go_wp2_with fail
                go_quiet (fail)
                go_wp2_with fail
                go_quiet (fail)
                go_wp2_with fail
                go_region
                go_wp2_with fail
                go_roundw
                case rel => exact ⟨k + 1, by omega, by go_num, by rw [hz.out]; exact spanRow_set (own_keep hrow2.out (below_drewN (Below.refl _ _) _) (Nat.le_refl _)) _, (below_drewN hbr2 _).setCell (p := ⟨g7, _, none⟩) hbg _⟩
                case measure => simp [intOf]; omega
              · have hz : Hid ((l2.take (k + 1)).foldl mstep [] = o ++ [(p1, y2)] ++ [(p1, p2)]) := by rw [HST2.out, if_neg hc]; rfl
                clear HST2 hxy
                go_wp2_with fail
                go_quiet (fail)
                go_wp2_with fail
                go_quiet (fail)
                go_wp2_with (at_builtin; refine append2 rfl _ _ 22 rfl B 38 i0 (.agg #[.int .i64 0, .int .i64 0]) 16 Tryz.underlying22 hi hz0 hz1 hz2 rfl (own_keep hrow2.out (below_drewN (Below.refl _ _) _) (Nat.le_refl _)) rfl (.int .i64 p1) (.int .i64 p2) rfl rfl rfl (Array.size_push _).symm (by unfold maxLen; simp; omega) (by simp; omega) (Nat.le_trans hBr (by show _ ≤ (wr.heap.push _).size; rw [Array.size_push]; omega)) ?_)
                intro g8 cap8 w8 hg8 hown8 hb8
                have hrow8 : Hid (SpanRow w8 B 38 (.slice (some ⟨g8, 0, none⟩) (o.length + 1 + 1) cap8) ((l2.take (k + 1)).foldl mstep [])) := by
                  rw [hz.out]
                  have h9 := spanRow_snoc (l := o ++ [(p1, y2)]) (a := p1) (b := p2) (v := .slice (some ⟨g8, 0, none⟩) (o.length + 1 + 1) cap8) (w := w8) (base := B) (e := 38) (by
                    simp only [List.length_append, List.length_singleton]
                    exact hown8)
                  exact h9
                have hbr8 := (below_drewN hbr2 _).trans hb8
                clear hown8
                go_wp2_with fail
                go_roundw
                case rel => exact ⟨k + 1, by omega, by go_num, hrow8, hbr8⟩
                case measure => simp [intOf]; omega
          · have hxy : ¬ ((p1, p2) : Int × Int) = (y1, y2) := by
              intro e
              injection e with e1 e2
              exact h1 e1
            rw [if_neg hxy] at HST2
            by_cases hc : p1 ≤ y2
            · have hz : Hid ((l2.take (k + 1)).foldl mstep [] = o ++ [(y1, max y2 p2)]) := by
                have hmx : (if y2 < p2 then p2 else y2) = max y2 p2 := by split <;> omega
                rw [HST2.out, if_pos hc]
                show o ++ [(y1, if y2 < p2 then p2 else y2)] = _
                rw [hmx]
              clear HST2 hxy
              go_wp2_with fail
              go_quiet (fail)
              go_wp2_with fail
              go_quiet (fail)
              go_wp2_with fail
              go_region
              go_wp2_with fail
              go_roundw
              case rel => exact ⟨k + 1, by omega, by go_num, by rw [hz.out]; exact spanRow_set (own_keep hrow2.out (below_drewN (Below.refl _ _) _) (Nat.le_refl _)) _, (below_drewN hbr2 _).setCell (p := ⟨g7, _, none⟩) hbg _⟩
              case measure => simp [intOf]; omega
            · have hz : Hid ((l2.take (k + 1)).foldl mstep [] = o ++ [(y1, y2)] ++ [(p1, p2)]) := by rw [HST2.out, if_neg hc]; rfl
              clear HST2 hxy
              go_wp2_with fail
              go_quiet (fail)
              go_wp2_with fail
              go_quiet (fail)
              go_wp2_with (at_builtin; refine append2 rfl _ _ 22 rfl B 38 i0 (.agg #[.int .i64 0, .int .i64 0]) 16 Tryz.underlying22 hi hz0 hz1 hz2 rfl (own_keep hrow2.out (below_drewN (Below.refl _ _) _) (Nat.le_refl _)) rfl (.int .i64 p1) (.int .i64 p2) rfl rfl rfl (Array.size_push _).symm (by unfold maxLen; simp; omega) (by simp; omega) (Nat.le_trans hBr (by show _ ≤ (wr.heap.push _).size; rw [Array.size_push]; omega)) ?_)
              intro g8 cap8 w8 hg8 hown8 hb8
              have hrow8 : Hid (SpanRow w8 B 38 (.slice (some ⟨g8, 0, none⟩) (o.length + 1 + 1) cap8) ((l2.take (k + 1)).foldl mstep [])) := by
                rw [hz.out]
                have h9 := spanRow_snoc (l := o ++ [(y1, y2)]) (a := p1) (b := p2) (v := .slice (some ⟨g8, 0, none⟩) (o.length + 1 + 1) cap8) (w := w8) (base := B) (e := 38) (by
                  simp only [List.length_append, List.length_singleton]
                  exact hown8)
                exact h9
              have hbr8 := (below_drewN hbr2 _).trans hb8
              clear hown8
              go_wp2_with fail
              go_roundw
              case rel => exact ⟨k + 1, by omega, by go_num, hrow8, hbr8⟩
              case measure => simp [intOf]; omega
    · obtain rfl : k = l.length := by omega
      have hfin : Hid ((l2.take l.length).foldl mstep [] = rmergeS l) := by
        have h1 : l2.take l.length = l2 := by rw [← hl2]; exact List.take_length
        rw [h1]; exact hres.out
      rw [hfin.out] at hrow
      have d4 := d3.trans (hbr.mono (Nat.le_of_lt hgB))
      go_wp2_with fail
      go_ret
      exact ⟨_, rfl, own_mono hrow.out (Nat.le_of_lt hgB), d4⟩
end Go.Proofs.YtnodboggemggmaaGreatDoor
