/- Contract of the document: spans merged. -/
import Derived.Test.YtnodboggemggmaaDoorMergeB
import Derived.Test.YtnodboggemggmaaDoorLawPrints
namespace Go.Proofs.YtnodboggemggmaaDoor
open Go Go.RowKit
set_option maxHeartbeats 2000000

theorem absorb_len : ∀ (r : List Sp) (x : Sp), (absorb x r).2.length ≤ r.length
  | [], _ => Nat.le_refl _
  | y :: r, x => by
    have hdef : absorb x (y :: r) = if y.2 < x.1 ∨ x.2 < y.1 then ((absorb x r).1, y :: (absorb x r).2) else absorb (if y.1 < x.1 then y.1 else x.1, if x.2 < y.2 then y.2 else x.2) r := rfl
    rw [hdef]
    split
    · have := absorb_len r x
      simp; omega
    · have := absorb_len r (if y.1 < x.1 then y.1 else x.1, if x.2 < y.2 then y.2 else x.2)
      simp; omega
theorem ins_len : ∀ (k : List Sp) (x : Sp), (insS x k).length = k.length + 1
  | [], _ => rfl
  | y :: k, x => by
    show (if x.1 < y.1 then x :: y :: k else y :: insS x k).length = _
    split
    · simp
    · simp [ins_len k x]
theorem rstep_len (out : List Sp) (x : Sp) : (rstep out x).length ≤ out.length + 1 := by
  unfold rstep
  split
  · omega
  · rw [ins_len]
    have := absorb_len out x
    omega
theorem rfold_le (l : List Sp) : ∀ k, ((l.take k).foldl rstep []).length ≤ k := by
  have : ∀ (l out : List Sp), (l.foldl rstep out).length ≤ out.length + l.length := by
    intro l
    induction l with
    | nil => intro out; simp
    | cons x l ih =>
      intro out
      rw [List.foldl_cons]
      have h1 := ih (rstep out x)
      have h2 := rstep_len out x
      simp; omega
  intro k
  have := this (l.take k) []
  simp at this; omega
/-- the second loop's rest: what is still to be laid, and whether the span is placed -/
def insF (x : Sp) : Bool → List Sp → List Sp
  | true, l => l
  | false, l => insS x l
theorem insF_step {x y : Sp} {r : List Sp} : insF x false (y :: r) = if x.1 < y.1 then x :: y :: r else y :: insF x false r := rfl
theorem absorb_cons (x y : Sp) (r : List Sp) : absorb x (y :: r) = if y.2 < x.1 ∨ x.2 < y.1 then ((absorb x r).1, y :: (absorb x r).2) else absorb (if y.1 < x.1 then y.1 else x.1, if x.2 < y.2 then y.2 else x.2) r := rfl
/-- a box that holds a span, and may be written -/
structure XBox (w : World) (g : Nat) (a b : Int) : Prop where
  c0 : w.cell? ⟨g, 0, none⟩ = some (.int .i64 a)
  c1 : w.cell? ⟨g, 1, none⟩ = some (.int .i64 b)
  f0 : w.frozen? ⟨g, 0, none⟩ = false
  f1 : w.frozen? ⟨g, 1, none⟩ = false
  lt : g < w.heap.size
theorem XBox.new (w : World) (a b : Int) (T : TypeId) : XBox (w.alloc (.cells #[.int .i64 a, .int .i64 b] T)) w.heap.size a b where
  c0 := World.cell?_alloc_mark w #[.int .i64 a, .int .i64 b] T (0, 0) 0
  c1 := World.cell?_alloc_mark w #[.int .i64 a, .int .i64 b] T (0, 0) 1
  f0 := by unfold World.frozen?; rw [show (w.alloc (.cells #[.int .i64 a, .int .i64 b] T)).heap[w.heap.size]? = _ from heap_alloc_new w _]; rfl
  f1 := by unfold World.frozen?; rw [show (w.alloc (.cells #[.int .i64 a, .int .i64 b] T)).heap[w.heap.size]? = _ from heap_alloc_new w _]; rfl
  lt := by show w.heap.size < (w.heap.push _).size; rw [Array.size_push]; omega
theorem XBox.next {w w' : World} {g B : Nat} {a b : Int} (h : XBox w g a b) (hb : Below B w w') (hB : g < B) : XBox w' g a b where
  c0 := by rw [hb.cell (p := ⟨g, 0, none⟩) hB]; exact h.c0
  c1 := by rw [hb.cell (p := ⟨g, 1, none⟩) hB]; exact h.c1
  f0 := by rw [hb.frozen (p := ⟨g, 0, none⟩) hB]; exact h.f0
  f1 := by rw [hb.frozen (p := ⟨g, 1, none⟩) hB]; exact h.f1
  lt := Nat.lt_of_lt_of_le h.lt hb.size
theorem XBox.set0 {w : World} {g : Nat} {a b : Int} (h : XBox w g a b) (z : Int) : XBox (w.setCell ⟨g, 0, none⟩ (.int .i64 z)) g z b where
  c0 := World.cell?_setCell_same w ⟨g, 0, none⟩ (.int .i64 z) h.c0
  c1 := (World.cell?_setCell_other w ⟨g, 0, none⟩ ⟨g, 1, none⟩ (.int .i64 z) (by simp)).trans h.c1
  f0 := by simp [h.f0]
  f1 := by simp [h.f1]
  lt := by simp [h.lt]
theorem XBox.set1 {w : World} {g : Nat} {a b : Int} (h : XBox w g a b) (z : Int) : XBox (w.setCell ⟨g, 1, none⟩ (.int .i64 z)) g a z where
  c0 := (World.cell?_setCell_other w ⟨g, 1, none⟩ ⟨g, 0, none⟩ (.int .i64 z) (by simp)).trans h.c0
  c1 := World.cell?_setCell_same w ⟨g, 1, none⟩ (.int .i64 z) h.c1
  f0 := by simp [h.f0]
  f1 := by simp [h.f1]
  lt := by simp [h.lt]
theorem own_setCell {w : World} {b : Nat} {e : TypeId} {size n : Nat} {v : Value} {xs : List Value} (h : w.ownsRow b e size v n xs) {p : Addr} (hp : p.block < b) (u : Value) : (w.setCell p u).ownsRow b e size v n xs := by
  refine ⟨h.1, ?_⟩
  rcases h.2 with h | ⟨g, cap, cur, h1, h2, h3, r⟩
  · exact Or.inl h
  · refine Or.inr ⟨g, cap, cur, h1, h2, ?_, r⟩
    rw [Below.heap_setCell w p u g (by omega)]
    exact h3

set_option maxRecDepth 100000 in
theorem rmerge_any (v : Value) (l : List (Int × Int)) (w : World) (h : SpanSl w v l) (nl : l.length ≤ 1048576) :
    Calls Tryd.prog 37 #[v] w fun e w' => ∃ u, e = .returned u ∧ SpanRow w' w.heap.size 34 u (rmergeS l) ∧ Below w.heap.size w w' := by
  obtain ⟨a, cap, rfl, hc⟩ := h
  have HA := Lib.hid hc
  clear hc
  obtain ⟨i0, hi, hz0, hz1, hz2⟩ := info_parts infoSpanR
  go_enter Tryd.func37, Tryd.ntmps37
  go_wp2_with fail
  go_loopw [3, 4] (fun out i wr => ∃ k : Nat, k ≤ l.length ∧ i = .int .i64 k ∧ Hid (SpanRow wr w.heap.size 34 out ((l.take k).foldl rstep [])) ∧ Below w.heap.size w wr) (fun _ i _ => l.length - (intOf i).toNat)
  case atStart => exact ⟨0, Nat.zero_le _, rfl, World.ownsRow_lit w #[] 0 (Nat.le_refl _) (by unfold maxLen; omega) rfl, (Below.refl _ _).alloc (Nat.le_refl _) _⟩
  case round =>
    obtain ⟨k, hk, rfl, hrow, hbr⟩ := hrel
    obtain ⟨w1, hw1⟩ : ∃ w1, w1 = wr := ⟨wr, rfl⟩
    subst hw1
    have hBr := hbr.size
    have haccl := rfold_le l k
    by_cases hlt : k < l.length
    · obtain ⟨ga, oa, rfl, hga, ha1, ha2⟩ := HA.out k hlt
      have hst : (l.take (k + 1)).foldl rstep [] = rstep ((l.take k).foldl rstep []) l[k] := by
        rw [List.take_succ_eq_append_getElem hlt, List.foldl_append]; rfl
      obtain ⟨p1, hp1⟩ := name_it l[k].1
      obtain ⟨p2, hp2⟩ := name_it l[k].2
      have hpe : l[k] = (p1, p2) := Prod.ext hp1.out hp2.out
      rw [hp1.out] at ha1; rw [hp2.out] at ha2
      rw [hpe] at hst
      rw [← hbr.cell (p := ⟨ga, _, none⟩) hga] at ha1 ha2
      obtain ⟨acc, hacc⟩ := name_it ((l.take k).foldl rstep [])
      rw [hacc.out] at hrow hst haccl
      obtain ⟨va, vc, hv⟩ := spanRow_slice hrow.out
      subst hv
      have HST := Lib.hid hst
      clear hst hp1 hp2 hpe hacc
      have hbr1 := hbr.alloc hBr (.cells #[.int .i64 p1, .int .i64 p2] 34)
      by_cases he : p2 ≤ p1
      · have hs2 : Hid ((l.take (k + 1)).foldl rstep [] = acc) := by rw [HST.out]; unfold rstep; exact if_pos he
        have hrow2 : Hid (SpanRow (w1.alloc (.cells #[.int .i64 p1, .int .i64 p2] 34)) w.heap.size 34 (.slice va acc.length vc) acc) := hrow.out.alloc _
        go_wp2_with fail
        all_goals (try (exfalso; omega))
        go_roundw
        case rel => exact ⟨k + 1, by omega, by go_num, by rw [hs2.out]; exact hrow2, hbr1⟩
        case measure => simp [intOf]; omega
      · have hp12 : p1 < p2 := by omega
        have hs2 : Hid ((l.take (k + 1)).foldl rstep [] = insS (absorb (p1, p2) acc).1 (absorb (p1, p2) acc).2) := by rw [HST.out]; unfold rstep; exact if_neg he
        have HSL := Lib.hid (spanSl_of_row hrow.out)
        obtain ⟨va', vc', hvv, hcs⟩ := spanSl_of_row hrow.out
        injection hvv with q1 q2 q3
        subst q1 q3
        have HCS := Lib.hid hcs
        clear hcs
        have hX0 := XBox.new w1 p1 p2 34
        have HX0 := Lib.hid hX0
        have e1 : (w1.alloc (.cells #[.int .i64 p1, .int .i64 p2] 34)).heap.size = w1.heap.size + 1 := Array.size_push ..
        clear he HST hX0
        go_wp2_with fail
        all_goals (try (exfalso; omega))
        go_loopw [6, 7] (fun kept j wq => ∃ (m : Nat) (x1 x2 : Int) (kp : List Sp), m ≤ acc.length ∧ j = .int .i64 m ∧ kp.length ≤ m ∧ Hid (SpanRow wq (w1.heap.size + 1) 34 kept kp) ∧ Hid (XBox wq w1.heap.size x1 x2) ∧ Below w1.heap.size w1 wq ∧
            Hid (absorb (p1, p2) acc = ((absorb (x1, x2) (acc.drop m)).1, kp ++ (absorb (x1, x2) (acc.drop m)).2))) (fun _ j _ => acc.length - (intOf j).toNat)
        case atStart =>
          refine ⟨0, p1, p2, [], Nat.zero_le _, rfl, Nat.le_refl _, ?_, ?_, ?_, rfl⟩
          · have := World.ownsRow_lit (base := w1.heap.size + 1) (size := 2) (e := 34) (w1.alloc (.cells #[.int .i64 p1, .int .i64 p2] 34)) #[] 0 (by rw [e1]; exact Nat.le_refl _) (by unfold maxLen; omega) rfl
            rw [e1] at this
            exact this
          · exact HX0.out.next ((Below.refl _ _).alloc (Nat.le_refl _) _) (by rw [e1]; omega)
          · exact ((Below.refl _ _).alloc (Nat.le_refl _) _).alloc (by rw [e1]; omega) _
        case round =>
          obtain ⟨m, x1, x2, kp, hm, rfl, hkp, hkr, hX, hbq, hab⟩ := hrel
          obtain ⟨wq, hwq⟩ : ∃ wq, wq = wr := ⟨wr, rfl⟩
          subst hwq
          have hBq := hbq.size
          by_cases hm2 : m < acc.length
          · obtain ⟨ga3, oa3, hva3, hga3, hy1, hy2⟩ := HCS.out m hm2
            subst hva3
            have hdr := List.drop_eq_getElem_cons hm2
            obtain ⟨y1, hyn1⟩ := name_it acc[m].1
            obtain ⟨y2, hyn2⟩ := name_it acc[m].2
            have hye : acc[m] = (y1, y2) := Prod.ext hyn1.out hyn2.out
            rw [hyn1.out] at hy1; rw [hyn2.out] at hy2
            rw [hye] at hdr
            rw [← hbq.cell (p := ⟨ga3, _, none⟩) hga3] at hy1 hy2
            have hab2 := hab.out
            rw [hdr, absorb_cons] at hab2
            have HXa := Lib.hid (hX.out.next ((Below.refl wq.heap.size wq).alloc (Nat.le_refl _) (.cells #[.int .i64 y1, .int .i64 y2] 34)) hX.out.lt)
            have HYa := Lib.hid (XBox.new wq y1 y2 34)
            have hbqa := hbq.alloc hBq (.cells #[.int .i64 y1, .int .i64 y2] 34)
            have hkra : Hid (SpanRow (wq.alloc (.cells #[.int .i64 y1, .int .i64 y2] 34)) (w1.heap.size + 1) 34 _ kp) := hkr.out.alloc _
            have hwl : w1.heap.size + 1 ≤ wq.heap.size := hX.out.lt
            have c0 := HXa.out.c0
            have c1 := HXa.out.c1
            have f0 := HXa.out.f0
            have f1 := HXa.out.f1
            have k0 := HYa.out.c0
            have k1 := HYa.out.c1
            have b1 : (0 : Int) ≤ (m : Int) := by omega
            have b2 : (m : Int) < (acc.length : Int) := by omega
            clear hyn1 hyn2 hye hdr hab
            by_cases hA : y2 < x1 ∨ x2 < y1
            · rw [if_pos hA] at hab2
              have HAB := Lib.hid hab2
              clear hab2
              have hA' : y2 < x1 ∨ (x1 ≤ y2 ∧ x2 < y1) := by omega
              clear hA
              rcases hA' with hA | ⟨hA0, hA⟩
              all_goals
                go_wp2_with (at_builtin; refine append2 rfl _ _ 26 rfl (w1.heap.size + 1) 34 i0 (.agg #[.int .i64 0, .int .i64 0]) 16 Tryd.underlying26 hi hz0 hz1 hz2 rfl hkra.out rfl (.int .i64 y1) (.int .i64 y2) rfl rfl rfl (Array.size_push _).symm (by unfold maxLen; omega) (by omega) (by show _ ≤ (wq.heap.push _).size; rw [Array.size_push]; omega) ?_)
                all_goals (try (exfalso; omega))
                intro g7 cap7 w7 hg7 hown7 hb7
                have hrow7 : Hid (SpanRow w7 (w1.heap.size + 1) 34 (.slice (some ⟨g7, 0, none⟩) (kp.length + 1) cap7) (kp ++ [(y1, y2)])) := spanRow_snoc hown7
                have hX7 := HXa.out.next hb7 (Nat.lt_succ_self _)
                have hb17 := hbqa.trans (hb7.mono (Nat.le_succ _))
                clear hown7 hb7
                go_wp2_with fail
                go_roundw
                case rel => exact ⟨m + 1, x1, x2, kp ++ [(y1, y2)], by omega, by go_num, by simp; omega, hrow7, hX7, hb17, by unfold Hid; rw [HAB.out, List.append_assoc]; rfl⟩
                case measure => simp [intOf]; omega
            · rw [if_neg hA] at hab2
              have hA1 : x1 ≤ y2 := by omega
              have hA2 : y1 ≤ x2 := by omega
              clear hA
              by_cases h3 : y1 < x1
              · have HX3 := Lib.hid (HXa.out.set0 y1)
                have d0 := HX3.out.c0
                have d1 := HX3.out.c1
                have e0 := HX3.out.f0
                have e2 := HX3.out.f1
                have hyb : wq.heap.size ≠ w1.heap.size := by omega
                have k2 : ((wq.alloc (.cells #[.int .i64 y1, .int .i64 y2] 34)).setCell ⟨w1.heap.size, 0, none⟩ (.int .i64 y1)).cell? ⟨wq.heap.size, 1, none⟩ = some (.int .i64 y2) := (World.cell?_setCell_other _ ⟨w1.heap.size, 0, none⟩ ⟨wq.heap.size, 1, none⟩ _ (by simp <;> omega)).trans k1
                have k3 : ((wq.alloc (.cells #[.int .i64 y1, .int .i64 y2] 34)).setCell ⟨w1.heap.size, 0, none⟩ (.int .i64 y1)).cell? ⟨wq.heap.size, 0, none⟩ = some (.int .i64 y1) := (World.cell?_setCell_other _ ⟨w1.heap.size, 0, none⟩ ⟨wq.heap.size, 0, none⟩ _ (by simp <;> omega)).trans k0
                have hkr3 : Hid (SpanRow ((wq.alloc (.cells #[.int .i64 y1, .int .i64 y2] 34)).setCell ⟨w1.heap.size, 0, none⟩ (.int .i64 y1)) (w1.heap.size + 1) 34 _ kp) := own_setCell hkra.out (Nat.lt_succ_self _) _
                have hb3 := hbqa.setCell (p := ⟨w1.heap.size, 0, none⟩) (Nat.le_refl _) (.int .i64 y1)
                by_cases h4 : x2 < y2
                · have HX4 := Lib.hid (HX3.out.set1 y2)
                  have hkr4 := own_setCell hkr3.out (p := ⟨w1.heap.size, 1, none⟩) (Nat.lt_succ_self _) (.int .i64 y2)
                  have HKR4 := Lib.hid hkr4
                  have hb4 := hb3.setCell (p := ⟨w1.heap.size, 1, none⟩) (Nat.le_refl _) (.int .i64 y2)
                  rw [if_pos h3, if_pos h4] at hab2
                  have HAB := Lib.hid hab2
                  clear hab2 hkr4
                  go_wp2_with fail
                  all_goals (try (exfalso; omega))
                  go_roundw
                  case rel => exact ⟨m + 1, y1, y2, kp, by omega, by go_num, by omega, HKR4, HX4, hb4, HAB⟩
                  case measure => simp [intOf]; omega
                · rw [if_pos h3, if_neg h4] at hab2
                  have HAB := Lib.hid hab2
                  clear hab2
                  go_wp2_with fail
                  all_goals (try (exfalso; omega))
                  go_roundw
                  case rel => exact ⟨m + 1, y1, x2, kp, by omega, by go_num, by omega, hkr3, HX3, hb3, HAB⟩
                  case measure => simp [intOf]; omega
              · by_cases h4 : x2 < y2
                · have HX4 := Lib.hid (HXa.out.set1 y2)
                  have hkr4 := own_setCell hkra.out (p := ⟨w1.heap.size, 1, none⟩) (Nat.lt_succ_self _) (.int .i64 y2)
                  have HKR4 := Lib.hid hkr4
                  have hb4 := hbqa.setCell (p := ⟨w1.heap.size, 1, none⟩) (Nat.le_refl _) (.int .i64 y2)
                  rw [if_neg h3, if_pos h4] at hab2
                  have HAB := Lib.hid hab2
                  clear hab2 hkr4
                  go_wp2_with fail
                  all_goals (try (exfalso; omega))
                  go_roundw
                  case rel => exact ⟨m + 1, x1, y2, kp, by omega, by go_num, by omega, HKR4, HX4, hb4, HAB⟩
                  case measure => simp [intOf]; omega
                · rw [if_neg h3, if_neg h4] at hab2
                  have HAB := Lib.hid hab2
                  clear hab2
                  go_wp2_with fail
                  all_goals (try (exfalso; omega))
                  go_roundw
                  case rel => exact ⟨m + 1, x1, x2, kp, by omega, by go_num, by omega, hkra, HXa, hbqa, HAB⟩
                  case measure => simp [intOf]; omega
          · obtain rfl : m = acc.length := by omega
            have hab2 := hab.out
            rw [List.drop_of_length_le (Nat.le_refl _)] at hab2
            have hs3 : Hid ((l.take (k + 1)).foldl rstep [] = insS (x1, x2) kp) := by
              unfold Hid; rw [hs2.out, hab2]; simp [absorb]
            obtain ⟨ka, kc, hkv⟩ := spanRow_slice hkr.out
            subst hkv
            obtain ⟨ka', kc', hkv, hkcs⟩ := spanSl_of_row hkr.out
            injection hkv with q1 q2 q3
            subst q1 q3
            have HKS := Lib.hid hkcs
            have hwl : w1.heap.size < wq.heap.size := hX.out.lt
            have hx12 : x1 < x2 ∨ x2 ≤ x1 := by omega
            clear hab hab2 hs2 hkcs HCS HSL HX0
            go_wp2_with fail
            go_loopw [3, 9, 10] (fun out pl j w5 => ∃ (m : Nat) (b : Bool) (dn : List Sp), m ≤ kp.length ∧ j = .int .i64 m ∧ pl = .bool b ∧ dn.length ≤ 2 * m ∧ Hid (SpanRow w5 wq.heap.size 34 out dn) ∧ Below wq.heap.size wq w5 ∧
                Hid (insS (x1, x2) kp = dn ++ insF (x1, x2) b (kp.drop m))) (fun _ _ j _ => kp.length - (intOf j).toNat)
            case atStart => exact ⟨0, false, [], Nat.zero_le _, rfl, rfl, by simp, World.ownsRow_lit wq #[] 0 (Nat.le_refl _) (by unfold maxLen; omega) rfl, (Below.refl _ _).alloc (Nat.le_refl _) _, rfl⟩
            case round =>
              obtain ⟨m, b, dn, hm, rfl, rfl, hdn, hdr, hb5, hin⟩ := hrel
              obtain ⟨w5, hw5⟩ : ∃ w5, w5 = wr := ⟨wr, rfl⟩
              subst hw5
              have hB5 := hb5.size
              have HX5 := Lib.hid (hX.out.next hb5 hwl)
              have c0 := HX5.out.c0
              have c1 := HX5.out.c1
              by_cases hm2 : m < kp.length
              · obtain ⟨gz, oz, hvz, hgz, hz1', hz2'⟩ := HKS.out m hm2
                subst hvz
                have hdz := List.drop_eq_getElem_cons hm2
                obtain ⟨z1, hzn1⟩ := name_it kp[m].1
                obtain ⟨z2, hzn2⟩ := name_it kp[m].2
                have hze : kp[m] = (z1, z2) := Prod.ext hzn1.out hzn2.out
                rw [hzn1.out] at hz1'; rw [hzn2.out] at hz2'
                rw [hze] at hdz
                rw [← hb5.cell (p := ⟨gz, _, none⟩) hgz] at hz1' hz2'
                have hin2 := hin.out
                rw [hdz] at hin2
                have b1 : (0 : Int) ≤ (m : Int) := by omega
                have b2 : (m : Int) < (kp.length : Int) := by omega
                clear hzn1 hzn2 hze hdz hin
                cases b
                · rw [insF_step] at hin2
                  by_cases hlt2 : x1 < z1
                  · rw [if_pos hlt2] at hin2
                    have HIN := Lib.hid hin2
                    clear hin2
                    go_wp2_with fail
                    go_quiet (fail)
                    go_wp2_with (at_builtin; refine append2 rfl _ _ 26 rfl wq.heap.size 34 i0 (.agg #[.int .i64 0, .int .i64 0]) 16 Tryd.underlying26 hi hz0 hz1 hz2 rfl (own_keep hdr.out (below_drewN (Below.refl _ _) _) (Nat.le_refl _)) rfl (.int .i64 x1) (.int .i64 x2) rfl rfl rfl rfl (by unfold maxLen; omega) (by omega) hB5 ?_)
                    intro g7 cap7 w7 hg7 hown7 hb7
                    have hrow7 : Hid (SpanRow w7 wq.heap.size 34 (.slice (some ⟨g7, 0, none⟩) (dn.length + 1) cap7) (dn ++ [(x1, x2)])) := spanRow_snoc hown7
                    have hb57 := (below_drewN hb5 _).trans hb7
                    have hz5 : w7.cell? ⟨gz, oz + m * 2, none⟩ = some (.int .i64 z1) := (hb7.cell (p := ⟨gz, _, none⟩) hgz).trans hz1'
                    have hz6 : w7.cell? ⟨gz, oz + m * 2 + 1, none⟩ = some (.int .i64 z2) := (hb7.cell (p := ⟨gz, _, none⟩) hgz).trans hz2'
                    have hB7 := hb57.size
                    have HO7 := Lib.hid hown7
                    clear hown7
                    go_wp2_with (at_builtin; refine append2 rfl _ _ 26 rfl wq.heap.size 34 i0 (.agg #[.int .i64 0, .int .i64 0]) 16 Tryd.underlying26 hi hz0 hz1 hz2 rfl HO7.out rfl (.int .i64 z1) (.int .i64 z2) rfl rfl rfl rfl (by unfold maxLen; omega) (by omega) hB7 ?_)
                    intro g8 cap8 w8 hg8 hown8 hb8
                    have hrow8 : Hid (SpanRow w8 wq.heap.size 34 (.slice (some ⟨g8, 0, none⟩) (dn.length + 1 + 1) cap8) (dn ++ [(x1, x2)] ++ [(z1, z2)])) := by
                      unfold Hid SpanRow
                      rw [cellsS_last, cellsS_last]
                      simp only [List.length_append, List.length_singleton]
                      rw [List.append_assoc]
                      exact hown8
                    have hb58 := hb57.trans hb8
                    clear hown8
                    go_wp2_with fail
                    go_roundw
                    case rel => exact ⟨m + 1, true, dn ++ [(x1, x2)] ++ [(z1, z2)], by omega, by go_num, rfl, by simp; omega, hrow8, hb58, by unfold Hid; rw [HIN.out]; simp [insF]⟩
                    case measure => simp [intOf]; omega
                  · rw [if_neg hlt2] at hin2
                    have HIN := Lib.hid hin2
                    clear hin2
                    go_wp2_with fail
                    go_quiet (fail)
                    go_wp2_with (at_builtin; refine append2 rfl _ _ 26 rfl wq.heap.size 34 i0 (.agg #[.int .i64 0, .int .i64 0]) 16 Tryd.underlying26 hi hz0 hz1 hz2 rfl (own_keep hdr.out (below_drewN (Below.refl _ _) _) (Nat.le_refl _)) rfl (.int .i64 z1) (.int .i64 z2) rfl rfl rfl rfl (by unfold maxLen; omega) (by omega) hB5 ?_)
                    intro g7 cap7 w7 hg7 hown7 hb7
                    have hrow7 : Hid (SpanRow w7 wq.heap.size 34 (.slice (some ⟨g7, 0, none⟩) (dn.length + 1) cap7) (dn ++ [(z1, z2)])) := spanRow_snoc hown7
                    have hb57 := (below_drewN hb5 _).trans hb7
                    clear hown7
                    go_wp2_with fail
                    go_roundw
                    case rel => exact ⟨m + 1, false, dn ++ [(z1, z2)], by omega, by go_num, rfl, by simp; omega, hrow7, hb57, by unfold Hid; rw [HIN.out]; simp [insF]⟩
                    case measure => simp [intOf]; omega
                · have HIN : Hid (insS (x1, x2) kp = dn ++ ((z1, z2) :: kp.drop (m + 1))) := hin2
                  clear hin2
                  go_wp2_with fail
                  go_quiet (fail)
                  go_wp2_with (at_builtin; refine append2 rfl _ _ 26 rfl wq.heap.size 34 i0 (.agg #[.int .i64 0, .int .i64 0]) 16 Tryd.underlying26 hi hz0 hz1 hz2 rfl (own_keep hdr.out (below_drewN (Below.refl _ _) _) (Nat.le_refl _)) rfl (.int .i64 z1) (.int .i64 z2) rfl rfl rfl rfl (by unfold maxLen; omega) (by omega) hB5 ?_)
                  intro g7 cap7 w7 hg7 hown7 hb7
                  have hrow7 : Hid (SpanRow w7 wq.heap.size 34 (.slice (some ⟨g7, 0, none⟩) (dn.length + 1) cap7) (dn ++ [(z1, z2)])) := spanRow_snoc hown7
                  have hb57 := (below_drewN hb5 _).trans hb7
                  clear hown7
                  go_wp2_with fail
                  go_roundw
                  case rel => exact ⟨m + 1, true, dn ++ [(z1, z2)], by omega, by go_num, rfl, by simp; omega, hrow7, hb57, by unfold Hid; rw [HIN.out]; simp [insF]⟩
                  case measure => simp [intOf]; omega
              · obtain rfl : m = kp.length := by omega
                have hin2 := hin.out
                rw [List.drop_of_length_le (Nat.le_refl _)] at hin2
                have dq := hbr.trans (hbq.mono hBr)
                cases b
                · have hs4 : Hid ((l.take (k + 1)).foldl rstep [] = dn ++ [(x1, x2)]) := by
                    unfold Hid; rw [hs3.out, hin2]; rfl
                  clear hin hin2
                  go_wp2_with (at_builtin; refine append2 rfl _ _ 26 rfl wq.heap.size 34 i0 (.agg #[.int .i64 0, .int .i64 0]) 16 Tryd.underlying26 hi hz0 hz1 hz2 rfl hdr.out rfl (.int .i64 x1) (.int .i64 x2) rfl rfl rfl rfl (by unfold maxLen; omega) (by omega) hB5 ?_)
                  intro g7 cap7 w7 hg7 hown7 hb7
                  have hrow7 : Hid (SpanRow w7 w.heap.size 34 (.slice (some ⟨g7, 0, none⟩) (dn.length + 1) cap7) ((l.take (k + 1)).foldl rstep [])) := by
                    rw [hs4.out]; exact own_mono (spanRow_snoc hown7) dq.size
                  have d7 := dq.trans ((hb5.trans hb7).mono dq.size)
                  clear hown7
                  go_wp2_with fail
                  go_roundw
                  case rel => exact ⟨k + 1, by omega, by go_num, hrow7, d7⟩
                  case measure => simp [intOf]; omega
                · have hs4 : Hid ((l.take (k + 1)).foldl rstep [] = dn) := by
                    unfold Hid; rw [hs3.out, hin2]; simp [insF]
                  have d7 := dq.trans (hb5.mono dq.size)
                  clear hin hin2
                  go_wp2_with fail
                  go_roundw
                  case rel => exact ⟨k + 1, by omega, by go_num, by rw [hs4.out]; exact own_mono hdr.out dq.size, d7⟩
                  case measure => simp [intOf]; omega
    · obtain rfl : k = l.length := by omega
      have hr2 := hrow.out
      rw [List.take_length] at hr2
      have HR2 := Lib.hid hr2
      clear hr2
      go_wp2_with fail
      go_ret
      exact ⟨_, rfl, HR2.out, hbr⟩
end Go.Proofs.YtnodboggemggmaaDoor
