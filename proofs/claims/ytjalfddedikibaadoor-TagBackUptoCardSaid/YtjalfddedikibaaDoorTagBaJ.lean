/- TagBack, plain: a printed tag is read as itself; printed tags with commas and blanks between are read as a list. -/
import Derived.Test.YtjalfddedikibaaDoorTagUJ
import Derived.Test.YtjalfddedikibaaDoorTagSJ
namespace Go.Proofs.YtjalfddedikibaaDoor
open Go Go.RowKit

theorem inT_ne {c : UInt8} (h : inT c = true) : c ≠ 34 := by
  rintro rfl; exact absurd h (by decide)
theorem scT_text (r : List UInt8) : ∀ (x : List UInt8) (n : Nat), x.all inT = true → n + x.length ≤ 256 → scT n (x ++ 34 :: r) = (x.length, true)
  | [], n, _, _ => rfl
  | c :: x, n, h, hn => by
    rw [List.all_cons, Bool.and_eq_true] at h
    rw [List.length_cons] at hn
    have ih := scT_text r x (n + 1) h.2 (by omega)
    show (if c = 34 then (0, true) else if inT c = true ∧ n < 256 then ((scT (n + 1) (x ++ 34 :: r)).1 + 1, (scT (n + 1) (x ++ 34 :: r)).2) else (0, false)) = _
    rw [if_neg (inT_ne h.1), if_pos ⟨h.1, by omega⟩, ih]; rfl
theorem rdB_print (w : Bool) (off : Nat) (x r : List UInt8) (h : x.all inT = true) (hn : x.length ≤ 256) : rdB w off (34 :: (x ++ 34 :: r)) = ((w, x), off + x.length + 2, true) := by
  rw [rdB_cons, if_pos rfl, scT_text r x 0 h (by omega)]
  simp
theorem good_parts {t : Tg} (h : goodT t = true) : t.2.all inT = true ∧ t.2.length ≤ 256 := by
  unfold goodT at h
  rw [Bool.and_eq_true] at h
  exact ⟨h.1, of_decide_eq_true h.2⟩
theorem rdT_print (t : Tg) (h : goodT t = true) (r : List UInt8) : rdT (printL t ++ r) = (t, (printL t).length, true) := by
  obtain ⟨h1, h2⟩ := good_parts h
  obtain ⟨b, x⟩ := t
  cases b
  · have e : printL (false, x) ++ r = 34 :: (x ++ 34 :: r) := by unfold printL; simp
    rw [e, rdT_c (by decide), rdB_print false 0 x r h1 h2]
    unfold printL; simp
  · have e : printL (true, x) ++ r = 87 :: 47 :: (34 :: (x ++ 34 :: r)) := by unfold printL; simp
    rw [e, rdT_w, if_pos rfl, rdB_print true 2 x r h1 h2]
    unfold printL; simp; omega
theorem parT_print (t : Tg) (h : goodT t = true) : parT (printL t) = (t, 0, 0) := by
  have e := rdT_print t h []
  rw [List.append_nil] at e
  exact parT_yes e rfl rfl
theorem printL_len (t : Tg) : (printL t).length ≤ t.2.length + 4 := by
  obtain ⟨b, x⟩ := t
  unfold printL
  cases b <;> simp
theorem printL_head (t : Tg) : ∃ c r, printL t = c :: r ∧ isBl c = false ∧ c ≠ 44 := by
  obtain ⟨b, x⟩ := t
  cases b
  · exact ⟨34, x ++ [34], by unfold printL; simp, by decide, by decide⟩
  · exact ⟨87, 47 :: 34 :: (x ++ [34]), by unfold printL; simp, by decide, by decide⟩
/-- a sign that may stand between tags -/
def isGap (c : UInt8) : Bool := isBl c || c == 44
def GL (free : Bool) (acc : List Tg) (l : List UInt8) (ts : List Tg) : Prop := ∀ pos, lsT free pos acc l = .good ts
theorem GL.bl {free : Bool} {acc ts : List Tg} {c : UInt8} {r : List UInt8} (h : isBl c = true) (hr : GL free acc r ts) : GL free acc (c :: r) ts := fun pos => by rw [lsT_bl h]; exact hr _
theorem GL.comma {free : Bool} {acc ts : List Tg} {r : List UInt8} (hr : GL true acc r ts) : GL free acc (44 :: r) ts := fun pos => by rw [lsT_comma]; exact hr _
theorem GL.tag {acc ts : List Tg} {r : List UInt8} {t : Tg} (h : goodT t = true) (hr : GL false (acc ++ [t]) r ts) : GL true acc (printL t ++ r) ts := fun pos => by
  obtain ⟨c, x, e, h1, h2⟩ := printL_head t
  have hrd := rdT_print t h r
  have e2 : printL t ++ r = c :: (x ++ r) := by rw [e]; rfl
  rw [e2] at hrd ⊢
  rw [lsT_read h1 h2 hrd, ← e2, List.drop_left]
  exact hr _
theorem GL.gap {acc ts : List Tg} {r : List UInt8} (hr : GL true acc r ts) : ∀ (g : List UInt8), g.all isGap = true → GL true acc (g ++ r) ts
  | [], _ => hr
  | c :: g, h => by
    rw [List.all_cons, Bool.and_eq_true] at h
    have ih := GL.gap hr g h.2
    unfold isGap at h
    rcases Bool.or_eq_true_iff.1 h.1 with h1 | h1
    · exact ih.bl h1
    · obtain rfl : c = 44 := by simpa using h1
      exact ih.comma
theorem GL.end_ {acc ts : List Tg} {r : List UInt8} (hr : GL true acc r ts) : ∀ (g : List UInt8) (free : Bool), g.all isGap = true → GL free acc (g ++ 44 :: r) ts
  | [], _, _ => hr.comma
  | c :: g, free, h => by
    rw [List.all_cons, Bool.and_eq_true] at h
    unfold isGap at h
    rcases Bool.or_eq_true_iff.1 h.1 with h1 | h1
    · exact (GL.end_ hr g free h.2).bl h1
    · obtain rfl : c = 44 := by simpa using h1
      exact (GL.end_ hr g true h.2).comma
/-- one tag of the text: what stands around it, itself -/
def itemL (x : List UInt8 × Tg) : List UInt8 := x.1 ++ (printL x.2 ++ (x.1 ++ [44]))
theorem GL.items : ∀ (is : List (List UInt8 × Tg)) (acc : List Tg), (∀ x ∈ is, x.1.all isGap = true ∧ goodT x.2 = true) → acc ++ is.map (·.2) ≠ [] → GL true acc (is.flatMap itemL) (acc ++ is.map (·.2))
  | [], acc, _, hne => fun pos => by
    rw [List.map_nil, List.append_nil] at hne
    rw [List.flatMap_nil, lsT_nil, if_neg hne, List.map_nil, List.append_nil]
  | x :: is, acc, h, _ => by
    obtain ⟨h1, h2⟩ := h x (List.mem_cons_self ..)
    have ih := GL.items is (acc ++ [x.2]) (fun y hy => h y (List.mem_cons_of_mem _ hy)) (by simp)
    rw [List.append_assoc] at ih
    rw [List.flatMap_cons]
    unfold itemL
    rw [List.append_assoc, List.append_assoc, List.append_assoc]
    refine GL.gap (GL.tag h2 ?_) _ h1
    exact GL.end_ ih _ _ h1
theorem trimL_gap (c : UInt8) (Y : List UInt8) (hc : isBl c = false) : ∀ g : List UInt8, g.all isGap = true → ∃ g', g'.all isGap = true ∧ trimL (g ++ c :: Y) = g' ++ c :: Y
  | [], _ => ⟨[], rfl, trimL_cons_no _ _ hc⟩
  | d :: g, h => by
    have h' := h
    rw [List.all_cons, Bool.and_eq_true] at h
    cases hd : isBl d with
    | true =>
      obtain ⟨g', h1, h2⟩ := trimL_gap c Y hc g h.2
      exact ⟨g', h1, by rw [List.cons_append, trimL_cons_bl _ _ hd, h2]⟩
    | false => exact ⟨d :: g, h', by rw [List.cons_append, trimL_cons_no _ _ hd]⟩
theorem items_end (is : List (List UInt8 × Tg)) (h : is ≠ []) : ∃ Z, is.flatMap itemL = Z ++ [44] := by
  rcases List.eq_nil_or_concat is with rfl | ⟨l, x, rfl⟩
  · exact absurd rfl h
  · refine ⟨l.flatMap itemL ++ (x.1 ++ (printL x.2 ++ x.1)), ?_⟩
    rw [List.concat_eq_append, List.flatMap_append, List.flatMap_cons, List.flatMap_nil, List.append_nil]
    unfold itemL
    simp
/-- THE LAW, plain. -/
theorem listT_items (is : List (List UInt8 × Tg)) (h : ∀ x ∈ is, x.1.all isGap = true ∧ goodT x.2 = true) (hne : is ≠ []) : listT (is.flatMap itemL) = ⟨is.map (·.2), false, 0, 0⟩ := by
  obtain ⟨Z, hZ⟩ := items_end is hne
  have ht : trim (is.flatMap itemL) = trimL (is.flatMap itemL) := by
    unfold trim
    rw [← trim_swap, hZ, trimR_snoc_no _ _ (by decide)]
  have hG : GL true [] (trim (is.flatMap itemL)) (is.map (·.2)) := by
    rw [ht]
    obtain ⟨x, r, rfl⟩ : ∃ x r, is = x :: r := by
      cases is with
      | nil => exact absurd rfl hne
      | cons x r => exact ⟨x, r, rfl⟩
    obtain ⟨h1, h2⟩ := h x (List.mem_cons_self ..)
    obtain ⟨c, y, e, h3, _⟩ := printL_head x.2
    have ih := GL.items r ([] ++ [x.2]) (fun z hz => h z (List.mem_cons_of_mem _ hz)) (by simp)
    rw [List.flatMap_cons]
    unfold itemL
    rw [List.append_assoc, List.append_assoc, List.append_assoc, e, List.cons_append]
    obtain ⟨g', k1, k2⟩ := trimL_gap c (y ++ (x.1 ++ ([44] ++ r.flatMap itemL))) h3 x.1 h1
    unfold itemL at k2
    rw [k2, ← List.cons_append, ← e]
    refine GL.gap (GL.tag h2 ?_) _ k1
    exact GL.end_ ih _ _ h1
  have hns : trim (is.flatMap itemL) ≠ [42] := by
    intro he
    have := hG 0
    rw [he, lsT_wrong (t := noT) (n := 0) (by decide) (by decide) (by decide) (by decide)] at this
    cases this
  exact listT_good hns (hG _)
/-- what stands around a tag, by a byte -/
def gapT (c : UInt8) : List UInt8 := match c.toNat % 5 with | 0 => [] | 1 => [32] | 2 => [9, 32] | 3 => [44] | _ => [32, 44, 32]
def gapAt (bl : List UInt8) (i : Nat) : List UInt8 := if h : i < bl.length then gapT bl[i] else []
theorem gapT_ok (c : UInt8) : (gapT c).all isGap = true ∧ (gapT c).length ≤ 3 := by
  unfold gapT
  split <;> decide
theorem gapAt_ok (bl : List UInt8) (i : Nat) : (gapAt bl i).all isGap = true ∧ (gapAt bl i).length ≤ 3 := by
  unfold gapAt
  split
  · exact gapT_ok _
  · decide
/-- the tags of the text after the first so many -/
def itemsB (bl : List UInt8) : Nat → List Tg → List (List UInt8 × Tg)
  | _, [] => []
  | i, t :: r => if goodT t = true then (gapAt bl i, t) :: itemsB bl (i + 1) r else itemsB bl (i + 1) r
theorem itemsB_cons (bl : List UInt8) (i : Nat) (t : Tg) (r : List Tg) : itemsB bl i (t :: r) = if goodT t = true then (gapAt bl i, t) :: itemsB bl (i + 1) r else itemsB bl (i + 1) r := rfl
theorem itemsB_ok (bl : List UInt8) : ∀ (l : List Tg) (i : Nat), ∀ x ∈ itemsB bl i l, x.1.all isGap = true ∧ goodT x.2 = true
  | [], _, x, h => by cases h
  | t :: r, i, x, h => by
    unfold itemsB at h
    split at h
    · rename_i hg
      rcases List.mem_cons.1 h with rfl | h
      · exact ⟨(gapAt_ok bl i).1, hg⟩
      · exact itemsB_ok bl r _ x h
    · exact itemsB_ok bl r _ x h
theorem itemsB_app (bl : List UInt8) : ∀ (l m : List Tg) (i : Nat), itemsB bl i (l ++ m) = itemsB bl i l ++ itemsB bl (i + l.length) m
  | [], m, i => rfl
  | t :: r, m, i => by
    have ih := itemsB_app bl r m (i + 1)
    have e : i + 1 + r.length = i + (t :: r).length := by rw [List.length_cons]; omega
    rw [e] at ih
    rw [List.cons_append, itemsB_cons, itemsB_cons]
    split
    · rw [ih]; rfl
    · exact ih
theorem itemsB_take (bl : List UInt8) (l : List Tg) (k : Nat) (h : k < l.length) : itemsB bl 0 (l.take (k + 1)) = if goodT l[k] = true then itemsB bl 0 (l.take k) ++ [(gapAt bl k, l[k])] else itemsB bl 0 (l.take k) := by
  rw [List.take_succ_eq_append_getElem h, itemsB_app, List.length_take, Nat.min_eq_left (by omega), Nat.zero_add, itemsB_cons]
  split
  · rfl
  · exact List.append_nil _
def textB (is : List (List UInt8 × Tg)) : List UInt8 := is.flatMap itemL
theorem textB_snoc (is : List (List UInt8 × Tg)) (x : List UInt8 × Tg) : textB (is ++ [x]) = textB is ++ (x.1 ++ (printL x.2 ++ (x.1 ++ [44]))) := by
  unfold textB; rw [List.flatMap_append, List.flatMap_cons, List.flatMap_nil, List.append_nil]; rfl
def tSum (l : List Tg) : Nat := (l.map fun t => t.2.length + 3).sum
theorem tSum_len (l : List Tg) : 3 * l.length ≤ tSum l := by
  induction l with
  | nil => exact Nat.zero_le _
  | cons t l ih => unfold tSum at ih ⊢; rw [List.map_cons, List.sum_cons, List.length_cons]; omega
theorem tSum_mem {l : List Tg} {t : Tg} (h : t ∈ l) : t.2.length + 3 ≤ tSum l := by
  unfold tSum
  exact le_sum_mem (List.mem_map.2 ⟨t, h, rfl⟩)
theorem textB_len (bl : List UInt8) : ∀ (l : List Tg) (i : Nat), (textB (itemsB bl i l)).length ≤ 4 * tSum l
  | [], _ => Nat.zero_le _
  | t :: r, i => by
    have ih := textB_len bl r (i + 1)
    have hg := (gapAt_ok bl i).2
    have hp := printL_len t
    unfold tSum at ih ⊢
    rw [List.map_cons, List.sum_cons]
    unfold itemsB
    split
    · unfold textB itemL at ih ⊢
      rw [List.flatMap_cons]
      simp only [List.length_append, List.length_singleton]
      omega
    · omega
theorem tSum_take (l : List Tg) (k : Nat) : tSum (l.take k) ≤ tSum l := by
  have h : tSum l = tSum (l.take k) + tSum (l.drop k) := by
    conv => lhs; rw [← List.take_append_drop k l]
    unfold tSum; rw [List.map_append, List.sum_append]
  omega
theorem items_wants (bl : List UInt8) : ∀ (l : List Tg) (i : Nat), (itemsB bl i l).length ≤ l.length
  | [], _ => Nat.le_refl _
  | t :: r, i => by
    have ih := items_wants bl r (i + 1)
    unfold itemsB
    split
    · rw [List.length_cons, List.length_cons]; omega
    · rw [List.length_cons]; omega
end Go.Proofs.YtjalfddedikibaaDoor
