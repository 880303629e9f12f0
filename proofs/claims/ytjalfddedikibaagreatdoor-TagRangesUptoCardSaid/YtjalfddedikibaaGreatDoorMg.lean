/- What is decided, plain: the program's four steps and the document's one law say the same. TagBack, plain: a printed tag is read as itself; printed tags with commas and blanks between are read as a list. -/
import Derived.Test.YtjalfddedikibaaGreatDoorTagMJ
import Derived.Test.YtjalfddedikibaaGreatDoorTagUJ
namespace Go.Proofs.YtjalfddedikibaaGreatDoor
open Go Go.RowKit

abbrev nmIM : Tx := [73, 102, 45, 77, 97, 116, 99, 104]
abbrev nmIN : Tx := [73, 102, 45, 78, 111, 110, 101, 45, 77, 97, 116, 99, 104]
abbrev nmIU : Tx := [73, 102, 45, 85, 110, 109, 111, 100, 105, 102, 105, 101, 100, 45, 83, 105, 110, 99, 101]
abbrev nmID : Tx := [73, 102, 45, 77, 111, 100, 105, 102, 105, 101, 100, 45, 83, 105, 110, 99, 101]
abbrev nmIR : Tx := [73, 102, 45, 82, 97, 110, 103, 101]
/-- one step's answer, and what stands behind it -/
def stepD (x k : Int) : Int := if x = 1 then 304 else if x = 2 then 412 else k
def decideT (rd : Bool) (s : Sta) (now : Int) (l : List Fd) : Int :=
  stepD (matchT s (valuesF l nmIM)) (stepD (unmodT s (dateT now (valuesF l nmIU)) (valuesF l nmIM)) (stepD (noneT rd s (valuesF l nmIN)) (stepD (modT rd s (dateT now (valuesF l nmID)) (valuesF l nmIN)) 0)))
theorem listT_err (l : List UInt8) : (listT l).e = 0 ∨ ((listT l).ts = [] ∧ (listT l).star = false ∧ (listT l).e = 81) := by
  unfold listT
  split
  · exact Or.inl rfl
  · split
    · exact Or.inr ⟨rfl, rfl, rfl⟩
    · exact Or.inr ⟨rfl, rfl, rfl⟩
    · exact Or.inl rfl
theorem listT_star_ts (l : List UInt8) (h : (listT l).star = true) : (listT l).e = 0 := by
  rcases listT_err l with h1 | ⟨_, h1, _⟩
  · exact h1
  · rw [h1] at h; cases h
/-- does a condition of tags meet a resource, as the document says it -/
def metR (strong : Bool) (s : Sta) (r : LV) : Bool :=
  if r.star = true then s.there else r.ts.any fun t => s.there && (s.tagged && ((strong && strongT t s.tag) || (!strong && alikeT t s.tag)))
theorem any_and (l : List Tg) (a b : Bool) (V : Tg → Bool) : (l.any fun t => a && (b && V t)) = (a && (b && l.any V)) := by
  induction l with
  | nil => cases a <;> cases b <;> rfl
  | cons t l ih => rw [List.any_cons, List.any_cons, ih]; cases a <;> cases b <;> simp
theorem metR_strong (s : Sta) (vs : List Tx) : metR true s (listT (Lib.join vs [44, 32])) = metT strongT s vs := by
  unfold metR metT
  have h : ∀ t, ((true && strongT t s.tag) || (!true && alikeT t s.tag)) = strongT t s.tag := by intro t; simp
  simp only [h]
  rw [any_and]
  rcases listT_err (Lib.join vs [44, 32]) with h1 | ⟨h1, h2, h3⟩
  · rw [h1]; cases (listT (Lib.join vs [44, 32])).star <;> cases s.there <;> simp
  · rw [h1, h2, h3]; cases s.there <;> cases s.tagged <;> rfl
theorem metR_alike (s : Sta) (vs : List Tx) : metR false s (listT (Lib.join vs [44, 32])) = metT alikeT s vs := by
  unfold metR metT
  have h : ∀ t, ((false && strongT t s.tag) || (!false && alikeT t s.tag)) = alikeT t s.tag := by intro t; simp
  simp only [h]
  rw [any_and]
  rcases listT_err (Lib.join vs [44, 32]) with h1 | ⟨h1, h2, h3⟩
  · rw [h1]; cases (listT (Lib.join vs [44, 32])).star <;> cases s.there <;> simp
  · rw [h1, h2, h3]; cases s.there <;> cases s.tagged <;> rfl
/-- what the document decides behind the first two conditions -/
def laterR (rd : Bool) (s : Sta) (D : Int × Bool) (vn : List Tx) : Int :=
  if vn = [] then (if (rd && (D.2 && (s.there && (s.timed && decide (s.time ≤ D.1))))) = true then 304 else 0)
  else if metT alikeT s vn = true then (if rd = true then 304 else 412) else 0
def decideR (rd : Bool) (s : Sta) (now : Int) (l : List Fd) : Int :=
  if valuesF l nmIM = [] then (if ((dateT now (valuesF l nmIU)).2 && (s.there && (s.timed && decide ((dateT now (valuesF l nmIU)).1 < s.time)))) = true then 412 else laterR rd s (dateT now (valuesF l nmID)) (valuesF l nmIN))
  else if metT strongT s (valuesF l nmIM) = true then laterR rd s (dateT now (valuesF l nmID)) (valuesF l nmIN) else 412
theorem later_eq (rd : Bool) (s : Sta) (D : Int × Bool) (vn : List Tx) : stepD (noneT rd s vn) (stepD (modT rd s D vn) 0) = laterR rd s D vn := by
  unfold laterR noneT modT
  by_cases h : vn = []
  · simp only [if_pos h]
    split <;> rfl
  · simp only [if_neg h]
    split
    · split <;> rfl
    · rfl
theorem decide_eq (rd : Bool) (s : Sta) (now : Int) (l : List Fd) : decideT rd s now l = decideR rd s now l := by
  unfold decideT decideR
  rw [later_eq]
  unfold matchT unmodT
  by_cases h : valuesF l nmIM = []
  · simp only [if_pos h]
    split <;> rfl
  · simp only [if_neg h]
    split <;> rfl
/-- what is decided hangs on the values of four names alone -/
theorem decide_of {rd : Bool} {s : Sta} {now : Int} {l m : List Fd} (h1 : valuesF l nmIM = valuesF m nmIM) (h2 : valuesF l nmIN = valuesF m nmIN) (h3 : valuesF l nmIU = valuesF m nmIU) (h4 : valuesF l nmID = valuesF m nmID) : decideT rd s now l = decideT rd s now m := by
  unfold decideT; rw [h1, h2, h3, h4]
theorem decide_three (rd : Bool) (s : Sta) (now : Int) (l : List Fd) : decideT rd s now l = 0 ∨ decideT rd s now l = 304 ∨ decideT rd s now l = 412 := by
  rw [decide_eq]
  have hL : ∀ D vn, laterR rd s D vn = 0 ∨ laterR rd s D vn = 304 ∨ laterR rd s D vn = 412 := by
    intro D vn; unfold laterR
    repeat' split
    all_goals first | exact Or.inl rfl | exact Or.inr (Or.inl rfl) | exact Or.inr (Or.inr rfl)
  unfold decideR
  repeat' split
  all_goals first | exact hL _ _ | exact Or.inr (Or.inr rfl)
theorem decide_reads (s : Sta) (now : Int) (l : List Fd) : decideT false s now l ≠ 304 := by
  rw [decide_eq]
  have hL : ∀ D vn, laterR false s D vn ≠ 304 := by
    intro D vn; unfold laterR
    split
    · rw [Bool.false_and, if_neg (by decide)]; decide
    · split <;> decide
  unfold decideR
  repeat' split
  all_goals first | exact hL _ _ | decide
theorem decide_nil (rd : Bool) (s : Sta) (now : Int) (l : List Fd) (h1 : valuesF l nmIM = []) (h2 : valuesF l nmIN = []) (h3 : valuesF l nmIU = []) (h4 : valuesF l nmID = []) : decideT rd s now l = 0 := by
  unfold decideT; rw [h1, h2, h3, h4]
  unfold matchT unmodT noneT modT dateT
  cases rd <;> rfl
end Go.Proofs.YtjalfddedikibaaGreatDoor
namespace Go.Proofs.YtjalfddedikibaaGreatDoor
open Go Go.RowKit

theorem inT_ne {c : UInt8} (h : inT c = true) : c ≠ 34 := by
  rintro rfl; exact absurd h (by decide)
theorem scT_text (r : List UInt8) : ∀ (x : List UInt8) (n : Nat), x.all inT = true → n + x.length ≤ 256 → scT n (x ++ 34 :: r) = (x.length, true)
  | [], n, _, _ => rfl
  | c :: x, n, h, hn => by
    rw [List.all_cons, Bool.and_eq_true] at h
    rw [List.length_cons] at hn
    have ih := scT_text r x (n + 1) h.2 (by omega)
    show (if c = 34 then (0, true) else if inT c = true ∧ n < 256 then ((scT (n + 1) (x ++ 34 :: r)).1 + 1, (scT (n + 1) (x ++ 34 :: r)).2) else (0, false)) = _
    rw [if_neg (inT_ne h.1), if_pos ⟨h.1, by omega⟩, ih]; rfl
theorem rdB_print (w : Bool) (off : Nat) (x r : List UInt8) (h : x.all inT = true) (hn : x.length ≤ 256) : rdB w off (34 :: (x ++ 34 :: r)) = ((w, x), off + x.length + 2, true) := by
  rw [rdB_cons, if_pos rfl, scT_text r x 0 h (by omega)]
  simp
theorem good_parts {t : Tg} (h : goodT t = true) : t.2.all inT = true ∧ t.2.length ≤ 256 := by
  unfold goodT at h
  rw [Bool.and_eq_true] at h
  exact ⟨h.1, of_decide_eq_true h.2⟩
theorem rdT_print (t : Tg) (h : goodT t = true) (r : List UInt8) : rdT (printL t ++ r) = (t, (printL t).length, true) := by
  obtain ⟨h1, h2⟩ := good_parts h
  obtain ⟨b, x⟩ := t
  cases b
  · have e : printL (false, x) ++ r = 34 :: (x ++ 34 :: r) := by unfold printL; simp
    rw [e, rdT_c (by decide), rdB_print false 0 x r h1 h2]
    unfold printL; simp
  · have e : printL (true, x) ++ r = 87 :: 47 :: (34 :: (x ++ 34 :: r)) := by unfold printL; simp
    rw [e, rdT_w, if_pos rfl, rdB_print true 2 x r h1 h2]
    unfold printL; simp; omega
theorem parT_print (t : Tg) (h : goodT t = true) : parT (printL t) = (t, 0, 0) := by
  have e := rdT_print t h []
  rw [List.append_nil] at e
  exact parT_yes e rfl rfl
theorem printL_len (t : Tg) : (printL t).length ≤ t.2.length + 4 := by
  obtain ⟨b, x⟩ := t
  unfold printL
  cases b <;> simp
theorem printL_head (t : Tg) : ∃ c r, printL t = c :: r ∧ isBl c = false ∧ c ≠ 44 := by
  obtain ⟨b, x⟩ := t
  cases b
  · exact ⟨34, x ++ [34], by unfold printL; simp, by decide, by decide⟩
  · exact ⟨87, 47 :: 34 :: (x ++ [34]), by unfold printL; simp, by decide, by decide⟩
/-- a sign that may stand between tags -/
def isGap (c : UInt8) : Bool := isBl c || c == 44
def GL (free : Bool) (acc : List Tg) (l : List UInt8) (ts : List Tg) : Prop := ∀ pos, lsT free pos acc l = .good ts
theorem GL.bl {free : Bool} {acc ts : List Tg} {c : UInt8} {r : List UInt8} (h : isBl c = true) (hr : GL free acc r ts) : GL free acc (c :: r) ts := fun pos => by rw [lsT_bl h]; exact hr _
theorem GL.comma {free : Bool} {acc ts : List Tg} {r : List UInt8} (hr : GL true acc r ts) : GL free acc (44 :: r) ts := fun pos => by rw [lsT_comma]; exact hr _
theorem GL.tag {acc ts : List Tg} {r : List UInt8} {t : Tg} (h : goodT t = true) (hr : GL false (acc ++ [t]) r ts) : GL true acc (printL t ++ r) ts := fun pos => by
  obtain ⟨c, x, e, h1, h2⟩ := printL_head t
  have hrd := rdT_print t h r
  have e2 : printL t ++ r = c :: (x ++ r) := by rw [e]; rfl
  rw [e2] at hrd ⊢
  rw [lsT_read h1 h2 hrd, ← e2, List.drop_left]
  exact hr _
theorem GL.gap {acc ts : List Tg} {r : List UInt8} (hr : GL true acc r ts) : ∀ (g : List UInt8), g.all isGap = true → GL true acc (g ++ r) ts
  | [], _ => hr
  | c :: g, h => by
    rw [List.all_cons, Bool.and_eq_true] at h
    have ih := GL.gap hr g h.2
    unfold isGap at h
    rcases Bool.or_eq_true_iff.1 h.1 with h1 | h1
    · exact ih.bl h1
    · obtain rfl : c = 44 := by simpa using h1
      exact ih.comma
theorem GL.end_ {acc ts : List Tg} {r : List UInt8} (hr : GL true acc r ts) : ∀ (g : List UInt8) (free : Bool), g.all isGap = true → GL free acc (g ++ 44 :: r) ts
  | [], _, _ => hr.comma
  | c :: g, free, h => by
    rw [List.all_cons, Bool.and_eq_true] at h
    unfold isGap at h
    rcases Bool.or_eq_true_iff.1 h.1 with h1 | h1
    · exact (GL.end_ hr g free h.2).bl h1
    · obtain rfl : c = 44 := by simpa using h1
      exact (GL.end_ hr g true h.2).comma
/-- one tag of the text: what stands around it, itself -/
def itemL (x : List UInt8 × Tg) : List UInt8 := x.1 ++ (printL x.2 ++ (x.1 ++ [44]))
theorem GL.items : ∀ (is : List (List UInt8 × Tg)) (acc : List Tg), (∀ x ∈ is, x.1.all isGap = true ∧ goodT x.2 = true) → acc ++ is.map (·.2) ≠ [] → GL true acc (is.flatMap itemL) (acc ++ is.map (·.2))
  | [], acc, _, hne => fun pos => by
    rw [List.map_nil, List.append_nil] at hne
    rw [List.flatMap_nil, lsT_nil, if_neg hne, List.map_nil, List.append_nil]
  | x :: is, acc, h, _ => by
    obtain ⟨h1, h2⟩ := h x (List.mem_cons_self ..)
    have ih := GL.items is (acc ++ [x.2]) (fun y hy => h y (List.mem_cons_of_mem _ hy)) (by simp)
    rw [List.append_assoc] at ih
    rw [List.flatMap_cons]
    unfold itemL
    rw [List.append_assoc, List.append_assoc, List.append_assoc]
    refine GL.gap (GL.tag h2 ?_) _ h1
    exact GL.end_ ih _ _ h1
theorem trimL_gap (c : UInt8) (Y : List UInt8) (hc : isBl c = false) : ∀ g : List UInt8, g.all isGap = true → ∃ g', g'.all isGap = true ∧ trimL (g ++ c :: Y) = g' ++ c :: Y
  | [], _ => ⟨[], rfl, trimL_cons_no _ _ hc⟩
  | d :: g, h => by
    have h' := h
    rw [List.all_cons, Bool.and_eq_true] at h
    cases hd : isBl d with
    | true =>
      obtain ⟨g', h1, h2⟩ := trimL_gap c Y hc g h.2
      exact ⟨g', h1, by rw [List.cons_append, trimL_cons_bl _ _ hd, h2]⟩
    | false => exact ⟨d :: g, h', by rw [List.cons_append, trimL_cons_no _ _ hd]⟩
theorem items_end (is : List (List UInt8 × Tg)) (h : is ≠ []) : ∃ Z, is.flatMap itemL = Z ++ [44] := by
  rcases List.eq_nil_or_concat is with rfl | ⟨l, x, rfl⟩
  · exact absurd rfl h
  · refine ⟨l.flatMap itemL ++ (x.1 ++ (printL x.2 ++ x.1)), ?_⟩
    rw [List.concat_eq_append, List.flatMap_append, List.flatMap_cons, List.flatMap_nil, List.append_nil]
    unfold itemL
    simp
/-- THE LAW, plain. -/
theorem listT_items (is : List (List UInt8 × Tg)) (h : ∀ x ∈ is, x.1.all isGap = true ∧ goodT x.2 = true) (hne : is ≠ []) : listT (is.flatMap itemL) = ⟨is.map (·.2), false, 0, 0⟩ := by
  obtain ⟨Z, hZ⟩ := items_end is hne
  have ht : trim (is.flatMap itemL) = trimL (is.flatMap itemL) := by
    unfold trim
    rw [← trim_swap, hZ, trimR_snoc_no _ _ (by decide)]
  have hG : GL true [] (trim (is.flatMap itemL)) (is.map (·.2)) := by
    rw [ht]
    obtain ⟨x, r, rfl⟩ : ∃ x r, is = x :: r := by
      cases is with
      | nil => exact absurd rfl hne
      | cons x r => exact ⟨x, r, rfl⟩
    obtain ⟨h1, h2⟩ := h x (List.mem_cons_self ..)
    obtain ⟨c, y, e, h3, _⟩ := printL_head x.2
    have ih := GL.items r ([] ++ [x.2]) (fun z hz => h z (List.mem_cons_of_mem _ hz)) (by simp)
    rw [List.flatMap_cons]
    unfold itemL
    rw [List.append_assoc, List.append_assoc, List.append_assoc, e, List.cons_append]
    obtain ⟨g', k1, k2⟩ := trimL_gap c (y ++ (x.1 ++ ([44] ++ r.flatMap itemL))) h3 x.1 h1
    unfold itemL at k2
    rw [k2, ← List.cons_append, ← e]
    refine GL.gap (GL.tag h2 ?_) _ k1
    exact GL.end_ ih _ _ h1
  have hns : trim (is.flatMap itemL) ≠ [42] := by
    intro he
    have := hG 0
    rw [he, lsT_wrong (t := noT) (n := 0) (by decide) (by decide) (by decide) (by decide)] at this
    cases this
  exact listT_good hns (hG _)
/-- what stands around a tag, by a byte -/
def gapT (c : UInt8) : List UInt8 := match c.toNat % 5 with | 0 => [] | 1 => [32] | 2 => [9, 32] | 3 => [44] | _ => [32, 44, 32]
def gapAt (bl : List UInt8) (i : Nat) : List UInt8 := if h : i < bl.length then gapT bl[i] else []
theorem gapT_ok (c : UInt8) : (gapT c).all isGap = true ∧ (gapT c).length ≤ 3 := by
  unfold gapT
  split <;> decide
theorem gapAt_ok (bl : List UInt8) (i : Nat) : (gapAt bl i).all isGap = true ∧ (gapAt bl i).length ≤ 3 := by
  unfold gapAt
  split
  · exact gapT_ok _
  · decide
/-- the tags of the text after the first so many -/
def itemsB (bl : List UInt8) : Nat → List Tg → List (List UInt8 × Tg)
  | _, [] => []
  | i, t :: r => if goodT t = true then (gapAt bl i, t) :: itemsB bl (i + 1) r else itemsB bl (i + 1) r
theorem itemsB_cons (bl : List UInt8) (i : Nat) (t : Tg) (r : List Tg) : itemsB bl i (t :: r) = if goodT t = true then (gapAt bl i, t) :: itemsB bl (i + 1) r else itemsB bl (i + 1) r := rfl
theorem itemsB_ok (bl : List UInt8) : ∀ (l : List Tg) (i : Nat), ∀ x ∈ itemsB bl i l, x.1.all isGap = true ∧ goodT x.2 = true
  | [], _, x, h => by cases h
  | t :: r, i, x, h => by
    unfold itemsB at h
    split at h
    · rename_i hg
      rcases List.mem_cons.1 h with rfl | h
      · exact ⟨(gapAt_ok bl i).1, hg⟩
      · exact itemsB_ok bl r _ x h
    · exact itemsB_ok bl r _ x h
theorem itemsB_app (bl : List UInt8) : ∀ (l m : List Tg) (i : Nat), itemsB bl i (l ++ m) = itemsB bl i l ++ itemsB bl (i + l.length) m
  | [], m, i => rfl
  | t :: r, m, i => by
    have ih := itemsB_app bl r m (i + 1)
    have e : i + 1 + r.length = i + (t :: r).length := by rw [List.length_cons]; omega
    rw [e] at ih
    rw [List.cons_append, itemsB_cons, itemsB_cons]
    split
    · rw [ih]; rfl
    · exact ih
theorem itemsB_take (bl : List UInt8) (l : List Tg) (k : Nat) (h : k < l.length) : itemsB bl 0 (l.take (k + 1)) = if goodT l[k] = true then itemsB bl 0 (l.take k) ++ [(gapAt bl k, l[k])] else itemsB bl 0 (l.take k) := by
  rw [List.take_succ_eq_append_getElem h, itemsB_app, List.length_take, Nat.min_eq_left (by omega), Nat.zero_add, itemsB_cons]
  split
  · rfl
  · exact List.append_nil _
def textB (is : List (List UInt8 × Tg)) : List UInt8 := is.flatMap itemL
theorem textB_snoc (is : List (List UInt8 × Tg)) (x : List UInt8 × Tg) : textB (is ++ [x]) = textB is ++ (x.1 ++ (printL x.2 ++ (x.1 ++ [44]))) := by
  unfold textB; rw [List.flatMap_append, List.flatMap_cons, List.flatMap_nil, List.append_nil]; rfl
def tSum (l : List Tg) : Nat := (l.map fun t => t.2.length + 3).sum
theorem tSum_len (l : List Tg) : 3 * l.length ≤ tSum l := by
  induction l with
  | nil => exact Nat.zero_le _
  | cons t l ih => unfold tSum at ih ⊢; rw [List.map_cons, List.sum_cons, List.length_cons]; omega
theorem tSum_mem {l : List Tg} {t : Tg} (h : t ∈ l) : t.2.length + 3 ≤ tSum l := by
  unfold tSum
  exact le_sum_mem (List.mem_map.2 ⟨t, h, rfl⟩)
theorem textB_len (bl : List UInt8) : ∀ (l : List Tg) (i : Nat), (textB (itemsB bl i l)).length ≤ 4 * tSum l
  | [], _ => Nat.zero_le _
  | t :: r, i => by
    have ih := textB_len bl r (i + 1)
    have hg := (gapAt_ok bl i).2
    have hp := printL_len t
    unfold tSum at ih ⊢
    rw [List.map_cons, List.sum_cons]
    unfold itemsB
    split
    · unfold textB itemL at ih ⊢
      rw [List.flatMap_cons]
      simp only [List.length_append, List.length_singleton]
      omega
    · omega
theorem tSum_take (l : List Tg) (k : Nat) : tSum (l.take k) ≤ tSum l := by
  have h : tSum l = tSum (l.take k) + tSum (l.drop k) := by
    conv => lhs; rw [← List.take_append_drop k l]
    unfold tSum; rw [List.map_append, List.sum_append]
  omega
theorem items_wants (bl : List UInt8) : ∀ (l : List Tg) (i : Nat), (itemsB bl i l).length ≤ l.length
  | [], _ => Nat.le_refl _
  | t :: r, i => by
    have ih := items_wants bl r (i + 1)
    unfold itemsB
    split
    · rw [List.length_cons, List.length_cons]; omega
    · rw [List.length_cons]; omega
end Go.Proofs.YtjalfddedikibaaGreatDoor
