/- The stable sort by merging: plain. The stable sort by merging: what the search for the cut finds, plain. The stable sort by merging: what its loops keep, plain. -/
import Derived.Test.YtkenianfpfamcaaGreatDoorMk
namespace Go.Proofs.YtkenianfpfamcaaGreatDoor
open Go Go.Sort

section plain
variable {α : Type} (kk : α → Nat)
/-- the greater key comes first -/
def ltV (x y : α) : Bool := decide (kk y < kk x)
def SrtK (l : List α) : Prop := l.Pairwise fun x y => kk y ≤ kk x
def SameK (Z l : List α) : Prop := ∀ k : Nat, Z.filter (fun x => decide (kk x = k)) = l.filter (fun x => decide (kk x = k))

theorem srt_uniq : ∀ (Z Z' : List α), SrtK kk Z → SrtK kk Z' → SameK kk Z Z' → Z = Z'
  | [], Z', _, _, h => by
    cases Z' with
    | nil => rfl
    | cons z T => have := h (kk z); simp at this
  | z :: T, [], _, _, h => by have := h (kk z); simp at this
  | z :: T, z' :: T', h1, h2, h => by
    have m1 : z' ∈ z :: T := by
      have : z' ∈ (z' :: T').filter (fun x => decide (kk x = kk z')) := by simp
      rw [← h] at this; exact (List.mem_filter.1 this).1
    have m2 : z ∈ z' :: T' := by
      have : z ∈ (z :: T).filter (fun x => decide (kk x = kk z)) := by simp
      rw [h] at this; exact (List.mem_filter.1 this).1
    have c1 := List.pairwise_cons.1 h1
    have c2 := List.pairwise_cons.1 h2
    have a1 : kk z' ≤ kk z := by
      rcases List.mem_cons.1 m1 with e | m
      · rw [e]; exact Nat.le_refl _
      · exact c1.1 _ m
    have a2 : kk z ≤ kk z' := by
      rcases List.mem_cons.1 m2 with e | m
      · rw [e]; exact Nat.le_refl _
      · exact c2.1 _ m
    have e : kk z' = kk z := by omega
    have hz := h (kk z)
    rw [List.filter_cons_of_pos (by simp), List.filter_cons_of_pos (by simp [e])] at hz
    injection hz with hz1 hz2
    subst hz1
    rw [srt_uniq T T' c1.2 c2.2 ?_]
    intro k
    have hk := h k
    by_cases hkz : kk z = k
    · subst hkz; exact hz2
    · rw [List.filter_cons_of_neg (by simp [hkz]), List.filter_cons_of_neg (by simp [hkz])] at hk
      exact hk

/-- the stable merge of two lists -/
def mrg : List α → List α → List α
  | [], Y => Y
  | x :: X, [] => x :: X
  | x :: X, y :: Y => if kk x < kk y then y :: mrg (x :: X) Y else x :: mrg X (y :: Y)
termination_by X Y => X.length + Y.length
decreasing_by all_goals (simp only [List.length_cons]; omega)
theorem mrg_nil_l (Y : List α) : mrg kk [] Y = Y := by rw [mrg]
theorem mrg_nil_r : ∀ X : List α, mrg kk X [] = X
  | [] => by rw [mrg]
  | x :: X => by rw [mrg]
theorem mrg_cons_y {x y : α} {X Y : List α} (h : kk x < kk y) : mrg kk (x :: X) (y :: Y) = y :: mrg kk (x :: X) Y := by rw [mrg, if_pos h]
theorem mrg_cons_x {x y : α} {X Y : List α} (h : kk y ≤ kk x) : mrg kk (x :: X) (y :: Y) = x :: mrg kk X (y :: Y) := by rw [mrg, if_neg (by omega)]
theorem mrg_split : ∀ (L1 R1 L2 R2 : List α), (∀ x ∈ L2, ∀ y ∈ R1, kk x < kk y) → (∀ x ∈ L1, ∀ y ∈ R2, kk y ≤ kk x) → mrg kk (L1 ++ L2) (R1 ++ R2) = mrg kk L1 R1 ++ mrg kk L2 R2
  | [], [], L2, R2, _, _ => by simp [mrg_nil_l]
  | [], y :: R1, [], R2, _, _ => by simp [mrg_nil_l]
  | [], y :: R1, x :: L2, R2, h1, h2 => by
    have ih := mrg_split [] R1 (x :: L2) R2 (fun a ha b hb => h1 a ha b (List.mem_cons_of_mem _ hb)) h2
    have hxy := h1 x (List.mem_cons_self ..) y (List.mem_cons_self ..)
    simp only [List.nil_append, List.cons_append, mrg_nil_l] at ih ⊢
    rw [mrg_cons_y kk hxy, ih]
  | x :: L1, [], L2, [], _, _ => by simp [mrg_nil_r]
  | x :: L1, [], L2, y :: R2, h1, h2 => by
    have ih := mrg_split L1 [] L2 (y :: R2) h1 (fun a ha b hb => h2 a (List.mem_cons_of_mem _ ha) b hb)
    have hxy := h2 x (List.mem_cons_self ..) y (List.mem_cons_self ..)
    simp only [List.nil_append, List.cons_append, mrg_nil_r] at ih ⊢
    rw [mrg_cons_x kk hxy, ih]
  | x :: L1, y :: R1, L2, R2, h1, h2 => by
    by_cases hxy : kk x < kk y
    · have ih := mrg_split (x :: L1) R1 L2 R2 (fun a ha b hb => h1 a ha b (List.mem_cons_of_mem _ hb)) h2
      simp only [List.cons_append] at ih ⊢
      rw [mrg_cons_y kk hxy, mrg_cons_y kk hxy, ih]; rfl
    · have hyx : kk y ≤ kk x := by omega
      have ih := mrg_split L1 (y :: R1) L2 R2 h1 (fun a ha b hb => h2 a (List.mem_cons_of_mem _ ha) b hb)
      simp only [List.cons_append] at ih ⊢
      rw [mrg_cons_x kk hyx, mrg_cons_x kk hyx, ih]; rfl
termination_by L1 R1 => L1.length + R1.length
theorem mrg_perm : ∀ X Y : List α, (mrg kk X Y).Perm (X ++ Y)
  | [], Y => by rw [mrg_nil_l]; exact List.Perm.refl _
  | x :: X, [] => by rw [mrg_nil_r, List.append_nil]
  | x :: X, y :: Y => by
    by_cases hxy : kk x < kk y
    · rw [mrg_cons_y kk hxy]
      exact (List.Perm.cons y (mrg_perm (x :: X) Y)).trans List.perm_middle.symm
    · rw [mrg_cons_x kk (by omega)]
      exact List.Perm.cons x (mrg_perm X (y :: Y))
termination_by X Y => X.length + Y.length
theorem mrg_length (X Y : List α) : (mrg kk X Y).length = X.length + Y.length := by
  rw [(mrg_perm kk X Y).length_eq, List.length_append]
theorem mrg_srt : ∀ X Y : List α, SrtK kk X → SrtK kk Y → SrtK kk (mrg kk X Y)
  | [], Y, _, h => by rw [mrg_nil_l]; exact h
  | x :: X, [], h, _ => by rw [mrg_nil_r]; exact h
  | x :: X, y :: Y, h1, h2 => by
    have c1 := List.pairwise_cons.1 h1
    have c2 := List.pairwise_cons.1 h2
    by_cases hxy : kk x < kk y
    · rw [mrg_cons_y kk hxy]
      refine List.pairwise_cons.2 ⟨fun a ha => ?_, mrg_srt (x :: X) Y h1 c2.2⟩
      rcases List.mem_append.1 ((mrg_perm kk _ _).mem_iff.1 ha) with h | h
      · rcases List.mem_cons.1 h with e | h
        · rw [e]; omega
        · have := c1.1 a h; omega
      · exact c2.1 a h
    · rw [mrg_cons_x kk (by omega)]
      refine List.pairwise_cons.2 ⟨fun a ha => ?_, mrg_srt X (y :: Y) c1.2 h2⟩
      rcases List.mem_append.1 ((mrg_perm kk _ _).mem_iff.1 ha) with h | h
      · exact c1.1 a h
      · rcases List.mem_cons.1 h with e | h
        · rw [e]; omega
        · have := c2.1 a h; omega
termination_by X Y => X.length + Y.length
theorem mrg_same : ∀ X Y : List α, SrtK kk X → SameK kk (mrg kk X Y) (X ++ Y)
  | [], Y, _ => by rw [mrg_nil_l]; exact fun _ => rfl
  | x :: X, [], _ => by rw [mrg_nil_r, List.append_nil]; exact fun _ => rfl
  | x :: X, y :: Y, h1 => by
    intro k
    have c1 := List.pairwise_cons.1 h1
    by_cases hxy : kk x < kk y
    · have ih := mrg_same (x :: X) Y h1 k
      rw [mrg_cons_y kk hxy, List.filter_append]
      rw [List.filter_append] at ih
      by_cases hk : kk y = k
      · rw [List.filter_cons_of_pos (by simp [hk]), ih, List.filter_cons_of_pos (l := Y) (by simp [hk])]
        have e : (x :: X).filter (fun x => decide (kk x = k)) = [] := by
          rw [List.filter_eq_nil_iff]
          intro a ha
          have : kk a ≤ kk x := by
            rcases List.mem_cons.1 ha with e | h
            · rw [e]; exact Nat.le_refl _
            · exact c1.1 a h
          simp; omega
        rw [e]; rfl
      · rw [List.filter_cons_of_neg (by simp [hk]), ih, List.filter_cons_of_neg (l := Y) (by simp [hk])]
    · have ih := mrg_same X (y :: Y) c1.2 k
      rw [mrg_cons_x kk (by omega), List.cons_append]
      by_cases hk : kk x = k
      · rw [List.filter_cons_of_pos (by simp [hk]), List.filter_cons_of_pos (by simp [hk]), ih]
      · rw [List.filter_cons_of_neg (by simp [hk]), List.filter_cons_of_neg (by simp [hk]), ih]
termination_by X Y => X.length + Y.length
theorem insRev_srt (k : α) : ∀ r : List α, r.Pairwise (fun x y => kk x ≤ kk y) → (insRev (ltV kk) k r).Pairwise (fun x y => kk x ≤ kk y)
  | [], _ => List.pairwise_singleton _ _
  | x :: r, h => by
    have c := List.pairwise_cons.1 h
    rw [insRev]
    by_cases hlt : kk x < kk k
    · rw [if_pos (by exact decide_eq_true hlt)]
      refine List.pairwise_cons.2 ⟨fun a ha => ?_, insRev_srt k r c.2⟩
      rcases List.mem_cons.1 ((insRev_perm _ k r).mem_iff.1 ha) with e | h
      · rw [e]; omega
      · exact c.1 a h
    · rw [if_neg (by show ¬ decide _ = true; simp; omega)]
      refine List.pairwise_cons.2 ⟨fun a ha => ?_, h⟩
      rcases List.mem_cons.1 ha with e | h
      · rw [e]; omega
      · have := c.1 a h; omega
theorem insRev_same (k : α) : ∀ r : List α, SameK kk (insRev (ltV kk) k r) (k :: r)
  | [] => fun _ => rfl
  | x :: r => by
    rw [insRev]
    by_cases hlt : kk x < kk k
    · rw [if_pos (by exact decide_eq_true hlt)]
      intro j
      have ih := insRev_same k r j
      by_cases hx : kk x = j
      · have hk : ¬ kk k = j := by omega
        rw [List.filter_cons_of_pos (by simp [hx]), ih, List.filter_cons_of_neg (by simp [hk]), List.filter_cons_of_neg (by simp [hk]), List.filter_cons_of_pos (by simp [hx])]
      · rw [List.filter_cons_of_neg (by simp [hx]), ih]
        by_cases hk : kk k = j
        · rw [List.filter_cons_of_pos (by simp [hk]), List.filter_cons_of_pos (by simp [hk]), List.filter_cons_of_neg (by simp [hx])]
        · rw [List.filter_cons_of_neg (by simp [hk]), List.filter_cons_of_neg (by simp [hk]), List.filter_cons_of_neg (by simp [hx])]
    · rw [if_neg (by show ¬ decide _ = true; simp; omega)]
      exact fun _ => rfl
theorem insFold : ∀ (l acc : List α), acc.Pairwise (fun x y => kk x ≤ kk y) →
    (l.foldl (fun acc k => insRev (ltV kk) k acc) acc).Pairwise (fun x y => kk x ≤ kk y) ∧ SameK kk (l.foldl (fun acc k => insRev (ltV kk) k acc) acc) (l.reverse ++ acc)
  | [], acc, h => ⟨h, fun _ => rfl⟩
  | k :: l, acc, h => by
    rw [List.foldl_cons]
    obtain ⟨i1, i2⟩ := insFold l _ (insRev_srt kk k acc h)
    refine ⟨i1, fun j => ?_⟩
    rw [i2 j, List.filter_append, insRev_same kk k acc j, ← List.filter_append]
    simp
theorem insAll_srt (l : List α) : SrtK kk (insAll (ltV kk) l) := by
  unfold SrtK insAll
  rw [List.pairwise_reverse]
  exact (insFold kk l [] List.Pairwise.nil).1
theorem insAll_same (l : List α) : SameK kk (insAll (ltV kk) l) l := by
  intro k
  unfold insAll
  rw [List.filter_reverse, (insFold kk l [] List.Pairwise.nil).2 k, List.append_nil, List.filter_reverse, List.reverse_reverse]
theorem insAll_uniq {Z l : List α} (h : SrtK kk Z) (hs : SameK kk Z l) : Z = insAll (ltV kk) l :=
  srt_uniq kk _ _ h (insAll_srt kk l) fun k => (hs k).trans (insAll_same kk l k).symm
theorem mrg_ins (X Y : List α) : mrg kk (insAll (ltV kk) X) (insAll (ltV kk) Y) = insAll (ltV kk) (X ++ Y) := by
  refine insAll_uniq kk (mrg_srt kk _ _ (insAll_srt kk X) (insAll_srt kk Y)) fun k => ?_
  rw [mrg_same kk _ _ (insAll_srt kk X) k, List.filter_append, insAll_same kk X k, insAll_same kk Y k, ← List.filter_append]
theorem insAll_len (l : List α) : (insAll (ltV kk) l).length = l.length := (insAll_perm _ l).length_eq

/-! what is sorted in blocks of s -/
def srtB (s : Nat) (l : List α) : List α :=
  if _h : l.length < s ∨ s = 0 then insAll (ltV kk) l else insAll (ltV kk) (l.take s) ++ srtB s (l.drop s)
termination_by l.length
decreasing_by simp only [List.length_drop]; omega
theorem srtB_small {s : Nat} {l : List α} (h : l.length < s) : srtB kk s l = insAll (ltV kk) l := by rw [srtB, dif_pos (Or.inl h)]
theorem insAll_nil : insAll (ltV kk) ([] : List α) = [] := rfl
theorem srtB_cons {s : Nat} {X R : List α} (hs : 0 < s) (h : X.length = s) : srtB kk s (X ++ R) = insAll (ltV kk) X ++ srtB kk s R := by
  rw [srtB, dif_neg (by rw [List.length_append]; omega)]
  rw [← h, List.take_left, List.drop_left]
theorem srtB_le {s : Nat} {l : List α} (hs : 0 < s) (h : l.length ≤ s) : srtB kk s l = insAll (ltV kk) l := by
  by_cases e : l.length < s
  · exact srtB_small kk e
  · have := srtB_cons kk (X := l) (R := []) hs (by omega)
    rw [List.append_nil] at this
    rw [this, srtB_small kk (by simpa using hs), insAll_nil, List.append_nil]
theorem srtB_length (s : Nat) (hs : 0 < s) (l : List α) : (srtB kk s l).length = l.length := by
  by_cases e : l.length < s
  · rw [srtB_small kk e, insAll_len]
  · rw [srtB, dif_neg (by omega), List.length_append, insAll_len, srtB_length s hs (l.drop s), List.length_take, List.length_drop]; omega
termination_by l.length
decreasing_by simp only [List.length_drop]; omega
end plain

section arr
variable {α : Type} [Inhabited α]
/-! an insertion sort of a part -/
theorem inner_mid (lt : α → α → Bool) (k : α) (A : List α) : ∀ (r R : List α), insInner lt A.length (A.length + r.length) (A ++ (r.reverse ++ k :: R)).toArray = (A ++ ((insRev lt k r).reverse ++ R)).toArray
  | [], R => by
    exact insInner_stop lt _ _ _ (Or.inl (Nat.le_refl _))
  | x :: r, R => by
    have e : A ++ ((x :: r).reverse ++ k :: R) = (A ++ r.reverse) ++ x :: k :: R := by simp
    have hl : (A ++ r.reverse).length = A.length + r.length := by simp
    have g1 : ((A ++ r.reverse) ++ x :: k :: R).toArray[A.length + r.length]! = x := by
      have := get_mid (A ++ r.reverse) (k :: R) x
      rwa [hl] at this
    have g2 : ((A ++ r.reverse) ++ x :: k :: R).toArray[A.length + r.length + 1]! = k := by
      have := get_mid (A ++ r.reverse ++ [x]) R k
      rw [List.length_append, hl, List.append_assoc] at this
      simpa using this
    have sw : swp ((A ++ r.reverse) ++ x :: k :: R).toArray (A.length + r.length + 1) (A.length + r.length) = ((A ++ r.reverse) ++ k :: x :: R).toArray := by
      have := swp_mid (A ++ r.reverse) R x k
      rwa [hl] at this
    rw [e, List.length_cons, ← Nat.add_assoc]
    cases h : lt k x with
    | true =>
      have ih := inner_mid lt k A r (x :: R)
      rw [insInner_go _ _ _ _ (by omega) (by rw [Nat.add_sub_cancel, g1, g2, h]), Nat.add_sub_cancel, sw, List.append_assoc, ih, insRev, if_pos h]
      simp
    | false =>
      rw [insInner_stop _ _ _ _ (Or.inr (by rw [Nat.add_sub_cancel, g1, g2, h])), insRev, if_neg (by rw [h]; decide)]
      simp
theorem outer_mid (lt : α → α → Bool) (A B : List α) : ∀ (R r : List α), insOuter lt A.length (A.length + (r.length + R.length)) (A.length + r.length) (A ++ (r.reverse ++ (R ++ B))).toArray = (A ++ ((R.foldl (fun acc k => insRev lt k acc) r).reverse ++ B)).toArray
  | [], r => by
    rw [insOuter_stop _ _ _ _ _ (by simp)]; simp
  | k :: R, r => by
    have ih := outer_mid lt A B R (insRev lt k r)
    have im := inner_mid lt k A r (R ++ B)
    rw [insRev_length] at ih
    rw [insOuter_go _ _ _ _ _ (by simp), List.cons_append, im]
    rw [show A.length + (r.length + (k :: R).length) = A.length + (r.length + 1 + R.length) by rw [List.length_cons]; omega, show A.length + r.length + 1 = A.length + (r.length + 1) by omega, ih]
    rfl
theorem sort_mid (lt : α → α → Bool) (A l B : List α) : Sort.insertionSort lt (A ++ (l ++ B)).toArray A.length (A.length + l.length) = (A ++ (insAll lt l ++ B)).toArray := by
  unfold Sort.insertionSort insAll
  cases l with
  | nil => rw [insOuter_stop _ _ _ _ _ (by simp)]; rfl
  | cons x r =>
    have := outer_mid lt A B r [x]
    rw [show A.length + (x :: r).length = A.length + ([x].length + r.length) by simp; omega]
    exact this

/-! blocks change places -/
def swapR : Nat → Nat → Nat → Array α → Array α
  | _, _, 0, d => d
  | a, b, n + 1, d => swapR (a + 1) (b + 1) n (swp d a b)
theorem swp_far (A M B : List α) (x y : α) : swp (A ++ x :: (M ++ y :: B)).toArray A.length (A.length + M.length + 1) = (A ++ y :: (M ++ x :: B)).toArray := by
  have g1 : (A ++ x :: (M ++ y :: B)).toArray[A.length]! = x := get_mid A _ x
  have g2 : (A ++ x :: (M ++ y :: B)).toArray[A.length + M.length + 1]! = y := by
    have := get_mid (A ++ x :: M) B y
    rw [List.length_append, List.length_cons, List.append_assoc, List.cons_append] at this
    rw [show A.length + M.length + 1 = A.length + (M.length + 1) by omega]
    exact this
  unfold swp
  rw [g1, g2]
  apply Array.toList_inj.1
  simp [Nat.add_sub_cancel_left, Nat.add_assoc]
theorem swapR_list : ∀ (X Y A M B : List α), X.length = Y.length → swapR A.length (A.length + X.length + M.length) X.length (A ++ (X ++ (M ++ (Y ++ B)))).toArray = (A ++ (Y ++ (M ++ (X ++ B)))).toArray
  | [], [], A, M, B, _ => rfl
  | [], _ :: _, _, _, _, h => by simp at h
  | _ :: _, [], _, _, _, h => by simp at h
  | x :: X, y :: Y, A, M, B, h => by
    have h' : X.length = Y.length := by simpa using h
    have s := swp_far A (X ++ M) (Y ++ B) x y
    have ih := swapR_list X Y (A ++ [y]) (M ++ [x]) B h'
    rw [List.length_cons, swapR]
    rw [show A.length + (X.length + 1) + M.length = A.length + (X ++ M).length + 1 by rw [List.length_append]; omega]
    have e1 : A ++ (x :: X ++ (M ++ (y :: Y ++ B))) = A ++ x :: (X ++ M ++ y :: (Y ++ B)) := by simp
    rw [e1, s]
    have e2 : A ++ y :: (X ++ M ++ x :: (Y ++ B)) = (A ++ [y]) ++ (X ++ (M ++ [x] ++ (Y ++ B))) := by simp
    rw [e2]
    have e3 : A.length + (X ++ M).length + 1 + 1 = (A ++ [y]).length + X.length + (M ++ [x]).length := by simp only [List.length_append, List.length_cons, List.length_nil]; omega
    have e4 : A.length + 1 = (A ++ [y]).length := by simp
    rw [e3, e4, ih]
    simp
theorem size_swapR : ∀ (n a b : Nat) (d : Array α), (swapR a b n d).size = d.size
  | 0, _, _, _ => rfl
  | n + 1, a, b, d => by rw [swapR, size_swapR n, size_swp]
/-- two neighbouring blocks of i and j change places -/
def rotR (m i j : Nat) (d : Array α) : Array α :=
  if i = 0 ∨ j = 0 then d
  else if i = j then swapR (m - i) m i d
  else if j < i then rotR m (i - j) j (swapR (m - i) m j d)
  else rotR m i (j - i) (swapR (m - i) (m + j - i) i d)
termination_by i + j
theorem rotR_eq (m i : Nat) (hi : i ≠ 0) (d : Array α) : rotR m i i d = swapR (m - i) m i d := by rw [rotR, if_neg (by omega), if_pos rfl]
theorem rotR_gt (m i j : Nat) (hj : j ≠ 0) (h : j < i) (d : Array α) : rotR m i j d = rotR m (i - j) j (swapR (m - i) m j d) := by
  rw [rotR, if_neg (by omega), if_neg (by omega), if_pos h]
theorem rotR_lt (m i j : Nat) (hi : i ≠ 0) (h : i < j) (d : Array α) : rotR m i j d = rotR m i (j - i) (swapR (m - i) (m + j - i) i d) := by
  rw [rotR, if_neg (by omega), if_neg (by omega), if_neg (by omega)]
theorem rotR_list : ∀ (X Y A B : List α), X ≠ [] → Y ≠ [] → rotR (A.length + X.length) X.length Y.length (A ++ (X ++ (Y ++ B))).toArray = (A ++ (Y ++ (X ++ B))).toArray := by
  have go : ∀ (n : Nat) (X Y A B : List α), X.length + Y.length ≤ n → X ≠ [] → Y ≠ [] → rotR (A.length + X.length) X.length Y.length (A ++ (X ++ (Y ++ B))).toArray = (A ++ (Y ++ (X ++ B))).toArray := by
    intro n
    induction n with
    | zero => intro X Y A B h hx _; exact absurd (List.eq_nil_of_length_eq_zero (by omega)) hx
    | succ n ih =>
      intro X Y A B h hx hy
      have hx0 : X.length ≠ 0 := fun e => hx (List.eq_nil_of_length_eq_zero e)
      have hy0 : Y.length ≠ 0 := fun e => hy (List.eq_nil_of_length_eq_zero e)
      by_cases e : X.length = Y.length
      · rw [← e, rotR_eq _ _ hx0, Nat.add_sub_cancel]
        have := swapR_list X Y A [] B e
        simp only [List.length_nil, Nat.add_zero, List.nil_append] at this
        exact this
      · by_cases g : Y.length < X.length
        · obtain ⟨X1, X2, rfl, h1⟩ : ∃ X1 X2, X = X1 ++ X2 ∧ X1.length = Y.length := ⟨X.take Y.length, X.drop Y.length, (List.take_append_drop ..).symm, by rw [List.length_take]; omega⟩
          have h2 : X2 ≠ [] := by rintro rfl; rw [List.append_nil] at g; omega
          have h3 : X1 ≠ [] := by rintro rfl; simp at h1; omega
          rw [rotR_gt _ _ _ hy0 g, Nat.add_sub_cancel]
          have s := swapR_list X1 Y A X2 B h1
          have e1 : A ++ (X1 ++ X2 ++ (Y ++ B)) = A ++ (X1 ++ (X2 ++ (Y ++ B))) := by simp
          rw [List.length_append] at g ⊢
          rw [e1, ← h1, ← Nat.add_assoc, s]
          have r := ih X2 X1 (A ++ Y) B (by rw [List.length_append] at h; omega) h2 h3
          rw [List.length_append] at r
          rw [show A.length + X1.length + X2.length = A.length + Y.length + X2.length by omega, Nat.add_sub_cancel_left]
          have e2 : A ++ (Y ++ (X2 ++ (X1 ++ B))) = A ++ Y ++ (X2 ++ (X1 ++ B)) := by simp
          rw [e2, r]
          simp
        · obtain ⟨Y1, Y2, rfl, h1⟩ : ∃ Y1 Y2, Y = Y1 ++ Y2 ∧ Y2.length = X.length := ⟨Y.take (Y.length - X.length), Y.drop (Y.length - X.length), (List.take_append_drop ..).symm, by rw [List.length_drop]; omega⟩
          rw [List.length_append] at g e hy0 ⊢
          have h2 : Y1 ≠ [] := by rintro rfl; simp at e g; omega
          have h3 : Y2 ≠ [] := by rintro rfl; simp at h1; omega
          rw [rotR_lt _ _ _ hx0 (by omega), Nat.add_sub_cancel]
          have s := swapR_list X Y2 A Y1 B h1.symm
          have e1 : A ++ (X ++ (Y1 ++ Y2 ++ B)) = A ++ (X ++ (Y1 ++ (Y2 ++ B))) := by simp
          rw [e1, show A.length + X.length + (Y1.length + Y2.length) - X.length = A.length + X.length + Y1.length by omega, s]
          have r := ih Y2 Y1 A (X ++ B) (by rw [List.length_append] at h; omega) h3 h2
          rw [h1] at r
          rw [show Y1.length + Y2.length - X.length = Y1.length by omega, r]
          simp
  exact fun X Y A B => go _ X Y A B (Nat.le_refl _)
/-! one element goes up, or down -/
def bubR : Nat → Nat → Array α → Array α
  | _, 0, d => d
  | k, c + 1, d => bubR (k + 1) c (swp d k (k + 1))
def bubL : Nat → Nat → Array α → Array α
  | _, 0, d => d
  | k, c + 1, d => bubL (k - 1) c (swp d k (k - 1))
theorem swp_comm2 (A R : List α) (x k : α) : swp (A ++ x :: k :: R).toArray A.length (A.length + 1) = (A ++ k :: x :: R).toArray := by
  have := swp_far A [] R x k
  simpa using this
theorem bubR_list (x : α) : ∀ (Y A B : List α), bubR A.length Y.length (A ++ x :: (Y ++ B)).toArray = (A ++ (Y ++ x :: B)).toArray
  | [], _, _ => rfl
  | y :: Y, A, B => by
    have ih := bubR_list x Y (A ++ [y]) B
    rw [List.length_append] at ih
    rw [List.length_cons, bubR, List.cons_append, swp_comm2]
    have e : A ++ y :: x :: (Y ++ B) = A ++ [y] ++ x :: (Y ++ B) := by simp
    rw [e, show A.length + 1 = A.length + [y].length from rfl, ih]
    simp
theorem bubL_list (y : α) : ∀ (r A B : List α), bubL (A.length + r.length) r.length (A ++ (r.reverse ++ y :: B)).toArray = (A ++ y :: (r.reverse ++ B)).toArray
  | [], _, _ => rfl
  | x :: r, A, B => by
    have ih := bubL_list y r A (x :: B)
    have hl : (A ++ r.reverse).length = A.length + r.length := by simp
    have sw := swp_mid (A ++ r.reverse) B x y
    rw [hl] at sw
    have e : A ++ ((x :: r).reverse ++ y :: B) = (A ++ r.reverse) ++ x :: y :: B := by simp
    rw [List.length_cons, bubL, e, ← Nat.add_assoc, Nat.add_sub_cancel, sw]
    have e2 : (A ++ r.reverse) ++ y :: x :: B = A ++ (r.reverse ++ y :: x :: B) := by simp
    rw [e2, ih]
    simp
end arr
end Go.Proofs.YtkenianfpfamcaaGreatDoor
namespace Go.Proofs.YtkenianfpfamcaaGreatDoor
open Go Go.Sort

section plain
variable {α : Type} [Inhabited α] (kk : α → Nat)
theorem get_part (A X B : List α) (i : Nat) (h : i < X.length) : (A ++ (X ++ B)).toArray[A.length + i]! = X[i] := by
  rw [getElem!_pos _ _ (by simp; omega)]
  simp only [List.getElem_toArray]
  rw [List.getElem_append_right (by omega), List.getElem_append_left (by omega)]
  simp
theorem get_part2 (A X Y B : List α) (i : Nat) (h : i < Y.length) : (A ++ (X ++ (Y ++ B))).toArray[A.length + X.length + i]! = Y[i] := by
  have := get_part (A ++ X) Y B i h
  rw [List.length_append, List.append_assoc] at this
  exact this
omit [Inhabited α] in
theorem srt_get {l : List α} (h : SrtK kk l) {i j : Nat} (hij : i ≤ j) (hj : j < l.length) : kk l[j] ≤ kk (l[i]'(by omega)) := by
  rcases Nat.lt_or_eq_of_le hij with hlt | rfl
  · exact List.pairwise_iff_getElem.1 h i j (by omega) hj hlt
  · exact Nat.le_refl _
omit [Inhabited α] in
theorem mem_take_get {l : List α} {t : Nat} {x : α} (h : x ∈ l.take t) : ∃ i, ∃ hi : i < l.length, i < t ∧ l[i] = x := by
  obtain ⟨i, hi, e⟩ := List.mem_iff_getElem.1 h
  rw [List.length_take] at hi
  rw [List.getElem_take] at e
  exact ⟨i, by omega, by omega, e⟩
omit [Inhabited α] in
theorem mem_drop_get {l : List α} {t : Nat} {x : α} (h : x ∈ l.drop t) : ∃ i, ∃ hi : i < l.length, t ≤ i ∧ l[i] = x := by
  obtain ⟨i, hi, e⟩ := List.mem_iff_getElem.1 h
  rw [List.length_drop] at hi
  rw [List.getElem_drop] at e
  exact ⟨t + i, by omega, by omega, e⟩
/-- what a search between lo and hi has found: at s the answer turns -/
def Found (C : Nat → Bool) (lo hi s r : Nat) : Prop := lo ≤ s ∧ s ≤ r ∧ r ≤ hi ∧ (s = lo ∨ C (s - 1) = false) ∧ (r = hi ∨ C r = true)
theorem Found.start (C : Nat → Bool) {lo hi : Nat} (h : lo ≤ hi) : Found C lo hi lo hi := ⟨Nat.le_refl _, h, Nat.le_refl _, Or.inl rfl, Or.inl rfl⟩
theorem Found.up {C : Nat → Bool} {lo hi s r c : Nat} (h : Found C lo hi s r) (h1 : s ≤ c) (h2 : c < r) (hc : C c = false) : Found C lo hi (c + 1) r :=
  ⟨by have := h.1; omega, by omega, h.2.2.1, Or.inr (by rw [Nat.add_sub_cancel]; exact hc), h.2.2.2.2⟩
theorem Found.down {C : Nat → Bool} {lo hi s r c : Nat} (h : Found C lo hi s r) (h1 : s ≤ c) (h2 : c < r) (hc : C c = true) : Found C lo hi s c :=
  ⟨h.1, h1, by have := h.2.2.1; omega, h.2.2.2.1, Or.inr hc⟩
/-- does what stands at n - 1 - c come ahead of what stands at c? -/
def cutV (kk : α → Nat) (n : Nat) (d : Array α) (c : Nat) : Bool := decide (kk d[c]! < kk d[n - 1 - c]!)
theorem halves_of (A X Y B : List α) (mid lo hi s n : Nat) (hX : SrtK kk X) (hY : SrtK kk Y) (hn : n = mid + (A.length + X.length))
    (hmid : mid = (A.length + (A.length + X.length + Y.length)) / 2)
    (hc : (mid < A.length + X.length ∧ lo + (A.length + X.length + Y.length) = n ∧ hi = mid) ∨ (A.length + X.length ≤ mid ∧ lo = A.length ∧ hi = A.length + X.length))
    (F : Found (cutV kk n (A ++ (X ++ (Y ++ B))).toArray) lo hi s s) :
    ∃ L1 L2 R1 R2, X = L1 ++ L2 ∧ Y = R1 ++ R2 ∧ A.length + L1.length = s ∧ A.length + X.length + R1.length + s = n ∧ (∀ x ∈ L2, ∀ y ∈ R1, kk x < kk y) ∧ (∀ x ∈ L1, ∀ y ∈ R2, kk y ≤ kk x) := by
  obtain ⟨f1, _, f3, f4, f5⟩ := F
  have hsa : A.length ≤ s := by omega
  have hsm : s ≤ A.length + X.length := by omega
  have hen : A.length + X.length + s ≤ n := by omega
  have heb : n ≤ A.length + X.length + Y.length + s := by omega
  refine ⟨X.take (s - A.length), X.drop (s - A.length), Y.take (n - s - (A.length + X.length)), Y.drop (n - s - (A.length + X.length)), (List.take_append_drop ..).symm, (List.take_append_drop ..).symm, by rw [List.length_take]; omega, by rw [List.length_take]; omega, ?_, ?_⟩
  · intro x hx y hy
    obtain ⟨i, hi1, hi2, rfl⟩ := mem_drop_get hx
    obtain ⟨j, hj1, hj2, rfl⟩ := mem_take_get hy
    have hC : cutV kk n (A ++ (X ++ (Y ++ B))).toArray s = true := by
      rcases f5 with h | h
      · omega
      · exact h
    have h1 := of_decide_eq_true hC
    obtain ⟨u, hu⟩ : ∃ u, s = A.length + u := ⟨s - A.length, by omega⟩
    obtain ⟨v, hv⟩ : ∃ v, n - 1 - s = A.length + X.length + v := ⟨n - 1 - s - (A.length + X.length), by omega⟩
    rw [hv, hu, get_part A X (Y ++ B) u (by omega), get_part2 A X Y B v (by omega)] at h1
    have h2 := srt_get kk hX (i := u) (j := i) (by omega) hi1
    have h3 := srt_get kk hY (i := j) (j := v) (by omega) (by omega)
    omega
  · intro x hx y hy
    obtain ⟨i, hi1, hi2, rfl⟩ := mem_take_get hx
    obtain ⟨j, hj1, hj2, rfl⟩ := mem_drop_get hy
    have hC : cutV kk n (A ++ (X ++ (Y ++ B))).toArray (s - 1) = false := by
      rcases f4 with h | h
      · omega
      · exact h
    have h1 := of_decide_eq_false hC
    obtain ⟨u, hu⟩ : ∃ u, s - 1 = A.length + u := ⟨s - 1 - A.length, by omega⟩
    obtain ⟨v, hv⟩ : ∃ v, n - 1 - (s - 1) = A.length + X.length + v := ⟨n - 1 - (s - 1) - (A.length + X.length), by omega⟩
    rw [hv, hu, get_part A X (Y ++ B) u (by omega), get_part2 A X Y B v (by omega)] at h1
    have h2 := srt_get kk hX (i := i) (j := u) (by omega) (by omega)
    have h3 := srt_get kk hY (i := v) (j := j) (by omega) hj1
    omega
/-- one element, merged with what follows it -/
theorem one_left (A Y B : List α) (x : α) (lo s : Nat) (hY : SrtK kk Y) (hlo : lo = A.length + 1)
    (F : Found (fun h => !decide (kk x < kk (A ++ x :: (Y ++ B)).toArray[h]!)) lo (lo + Y.length) s s) :
    ∃ Y1 Y2, Y = Y1 ++ Y2 ∧ lo + Y1.length = s ∧ mrg kk [x] Y = Y1 ++ x :: Y2 := by
  obtain ⟨f1, _, f3, f4, f5⟩ := F
  have e : A ++ x :: (Y ++ B) = A ++ ([x] ++ (Y ++ B)) := rfl
  refine ⟨Y.take (s - lo), Y.drop (s - lo), (List.take_append_drop ..).symm, by rw [List.length_take]; omega, ?_⟩
  have h1 : ∀ y ∈ Y.take (s - lo), kk x < kk y := by
    intro y hy
    obtain ⟨j, hj1, hj2, rfl⟩ := mem_take_get hy
    rcases f4 with h | h
    · omega
    · obtain ⟨v, hv⟩ : ∃ v, s - 1 = A.length + [x].length + v := ⟨s - 1 - (A.length + 1), by rw [List.length_singleton]; omega⟩
      have hv' := hv
      rw [List.length_singleton] at hv'
      simp only [Bool.not_eq_false', decide_eq_true_eq] at h
      rw [e, hv, get_part2 A [x] Y B v (by omega)] at h
      have h3 := srt_get kk hY (i := j) (j := v) (by omega) (by omega)
      omega
  have h2 : ∀ y ∈ Y.drop (s - lo), kk y ≤ kk x := by
    intro y hy
    obtain ⟨j, hj1, hj2, rfl⟩ := mem_drop_get hy
    rcases f5 with h | h
    · omega
    · obtain ⟨v, hv⟩ : ∃ v, s = A.length + [x].length + v := ⟨s - (A.length + 1), by rw [List.length_singleton]; omega⟩
      have hv' := hv
      rw [List.length_singleton] at hv'
      simp only [Bool.not_eq_true', decide_eq_false_iff_not] at h
      rw [e, hv, get_part2 A [x] Y B v (by omega)] at h
      have h3 := srt_get kk hY (i := v) (j := j) (by omega) hj1
      omega
  have a := mrg_split kk [] (Y.take (s - lo)) [x] (Y.drop (s - lo)) (fun a ha b hb => by rw [List.mem_singleton] at ha; rw [ha]; exact h1 b hb) (fun a ha => by cases ha)
  have b := mrg_split kk [x] [] [] (Y.drop (s - lo)) (fun a ha => by cases ha) (fun a ha b hb => by rw [List.mem_singleton] at ha; rw [ha]; exact h2 b hb)
  rw [List.take_append_drop, List.nil_append, mrg_nil_l] at a
  rw [List.append_nil, List.nil_append, mrg_nil_r, mrg_nil_l] at b
  rw [a, b]; rfl
theorem one_right (A X B : List α) (y : α) (s : Nat) (hX : SrtK kk X)
    (F : Found (fun h => decide (kk (A ++ (X ++ y :: B)).toArray[h]! < kk y)) A.length (A.length + X.length) s s) :
    ∃ X1 X2, X = X1 ++ X2 ∧ A.length + X1.length = s ∧ mrg kk X [y] = X1 ++ y :: X2 := by
  obtain ⟨f1, _, f3, f4, f5⟩ := F
  refine ⟨X.take (s - A.length), X.drop (s - A.length), (List.take_append_drop ..).symm, by rw [List.length_take]; omega, ?_⟩
  have h1 : ∀ x ∈ X.take (s - A.length), kk y ≤ kk x := by
    intro x hx
    obtain ⟨j, hj1, hj2, rfl⟩ := mem_take_get hx
    rcases f4 with h | h
    · omega
    · obtain ⟨v, hv⟩ : ∃ v, s - 1 = A.length + v := ⟨s - 1 - A.length, by omega⟩
      have h := of_decide_eq_false h
      rw [hv, get_part A X (y :: B) v (by omega)] at h
      have h3 := srt_get kk hX (i := j) (j := v) (by omega) (by omega)
      omega
  have h2 : ∀ x ∈ X.drop (s - A.length), kk x < kk y := by
    intro x hx
    obtain ⟨j, hj1, hj2, rfl⟩ := mem_drop_get hx
    rcases f5 with h | h
    · omega
    · obtain ⟨v, hv⟩ : ∃ v, s = A.length + v := ⟨s - A.length, by omega⟩
      have h := of_decide_eq_true h
      rw [hv, get_part A X (y :: B) v (by omega)] at h
      have h3 := srt_get kk hX (i := v) (j := j) (by omega) hj1
      omega
  have a := mrg_split kk (X.take (s - A.length)) [] (X.drop (s - A.length)) [y] (fun a _ b hb => by cases hb) (fun a ha b hb => by rw [List.mem_singleton] at hb; rw [hb]; exact h1 a ha)
  have b := mrg_split kk [] [y] (X.drop (s - A.length)) [] (fun a ha b hb => by rw [List.mem_singleton] at hb; rw [hb]; exact h2 a ha) (fun a ha => by cases ha)
  rw [List.take_append_drop, List.nil_append, mrg_nil_r] at a
  rw [List.append_nil, List.nil_append, mrg_nil_l, mrg_nil_r] at b
  rw [a, b]; rfl
end plain
end Go.Proofs.YtkenianfpfamcaaGreatDoor
namespace Go.Proofs.YtkenianfpfamcaaGreatDoor
open Go Go.Sort
variable {α : Type} [Inhabited α] (kk : α → Nat)

def Blk1 (l : List α) (a : Nat) (dk : Array α) : Prop := ∃ P T : List α, P.length = a ∧ a + T.length = l.length ∧ dk = (P ++ T).toArray ∧ P ++ srtB kk 20 T = srtB kk 20 l
omit [Inhabited α] in
theorem Blk1.start (l : List α) : Blk1 kk l 0 l.toArray := ⟨[], l, rfl, by simp, rfl, rfl⟩
theorem Blk1.step {l : List α} {a : Nat} {dk : Array α} (h : Blk1 kk l a dk) (ha : a + 20 ≤ l.length) : Blk1 kk l (a + 20) (Sort.insertionSort (ltV kk) dk a (a + 20)) := by
  obtain ⟨P, T, hp, ht, hd, hs⟩ := h
  obtain ⟨X, U, rfl, hx⟩ : ∃ X U, T = X ++ U ∧ X.length = 20 := ⟨T.take 20, T.drop 20, (List.take_append_drop ..).symm, by rw [List.length_take]; omega⟩
  have e := sort_mid (ltV kk) P X U
  rw [hx, hp] at e
  rw [List.length_append] at ht
  refine ⟨P ++ insAll (ltV kk) X, U, by rw [List.length_append, insAll_len]; omega, by omega, by rw [hd, e]; simp, ?_⟩
  rw [← hs, srtB_cons kk (by omega) hx, List.append_assoc]
theorem Blk1.done {l : List α} {a : Nat} {dk : Array α} (h : Blk1 kk l a dk) (ha : l.length < a + 20) : Sort.insertionSort (ltV kk) dk a l.length = (srtB kk 20 l).toArray := by
  obtain ⟨P, T, hp, ht, hd, hs⟩ := h
  have e := sort_mid (ltV kk) P T []
  rw [List.append_nil, List.append_nil, hp, ht] at e
  rw [← hs, hd, e, srtB_small kk (by omega)]
omit [Inhabited α] in
theorem Blk1.size {l : List α} {a : Nat} {dk : Array α} (h : Blk1 kk l a dk) : dk.size = l.length := by
  obtain ⟨P, T, hp, ht, hd, hs⟩ := h
  rw [hd]; simp; omega

def Blk2 (s : Nat) (l : List α) (a : Nat) (dk : Array α) : Prop := ∃ P T : List α, P.length = a ∧ a + T.length = l.length ∧ dk = (P ++ srtB kk s T).toArray ∧ P ++ srtB kk (s * 2) T = srtB kk (s * 2) l
omit [Inhabited α] in
theorem Blk2.start (s : Nat) (l : List α) : Blk2 kk s l 0 (srtB kk s l).toArray := ⟨[], l, rfl, by simp, rfl, rfl⟩
omit [Inhabited α] in
theorem Blk2.size {s : Nat} {l : List α} {a : Nat} {dk : Array α} (h : Blk2 kk s l a dk) (hs0 : 0 < s) : dk.size = l.length := by
  obtain ⟨P, T, hp, ht, hd, hs⟩ := h
  rw [hd]; simp [srtB_length kk s hs0]; omega
omit [Inhabited α] in
theorem Blk2.step {s : Nat} {l : List α} {a : Nat} {dk : Array α} (h : Blk2 kk s l a dk) (hs0 : 0 < s) (ha : a + 2 * s ≤ l.length) :
    ∃ A X Y B : List α, dk = (A ++ (X ++ (Y ++ B))).toArray ∧ A.length = a ∧ X.length = s ∧ Y.length = s ∧ SrtK kk X ∧ SrtK kk Y ∧ Blk2 kk s l (a + 2 * s) (A ++ (mrg kk X Y ++ B)).toArray := by
  obtain ⟨P, T, hp, ht, hd, hs⟩ := h
  obtain ⟨X, U, rfl, hx⟩ : ∃ X U, T = X ++ U ∧ X.length = s := ⟨T.take s, T.drop s, (List.take_append_drop ..).symm, by rw [List.length_take]; omega⟩
  rw [List.length_append] at ht
  obtain ⟨Y, V, rfl, hy⟩ : ∃ Y V, U = Y ++ V ∧ Y.length = s := ⟨U.take s, U.drop s, (List.take_append_drop ..).symm, by rw [List.length_take]; omega⟩
  rw [List.length_append] at ht
  rw [srtB_cons kk hs0 hx, srtB_cons kk hs0 hy] at hd
  refine ⟨P, insAll (ltV kk) X, insAll (ltV kk) Y, srtB kk s V, hd, hp, by rw [insAll_len, hx], by rw [insAll_len, hy], insAll_srt kk X, insAll_srt kk Y, P ++ insAll (ltV kk) (X ++ Y), V, by rw [List.length_append, insAll_len, List.length_append]; omega, by omega, by rw [mrg_ins]; simp, ?_⟩
  rw [← hs, ← List.append_assoc X, srtB_cons kk (s := s * 2) (by omega) (by rw [List.length_append]; omega), List.append_assoc]
omit [Inhabited α] in
theorem Blk2.last {s : Nat} {l : List α} {a : Nat} {dk : Array α} (h : Blk2 kk s l a dk) (hs0 : 0 < s) (h1 : l.length < a + 2 * s) (h2 : a + s < l.length) :
    ∃ A X Y B : List α, dk = (A ++ (X ++ (Y ++ B))).toArray ∧ A.length = a ∧ X.length = s ∧ a + s + Y.length = l.length ∧ SrtK kk X ∧ SrtK kk Y ∧ A ++ (mrg kk X Y ++ B) = srtB kk (s * 2) l := by
  obtain ⟨P, T, hp, ht, hd, hs⟩ := h
  obtain ⟨X, Y, rfl, hx⟩ : ∃ X U, T = X ++ U ∧ X.length = s := ⟨T.take s, T.drop s, (List.take_append_drop ..).symm, by rw [List.length_take]; omega⟩
  rw [List.length_append] at ht
  rw [srtB_cons kk hs0 hx, srtB_small kk (l := Y) (by omega)] at hd
  refine ⟨P, insAll (ltV kk) X, insAll (ltV kk) Y, [], by rw [List.append_nil]; exact hd, hp, by rw [insAll_len, hx], by rw [insAll_len]; omega, insAll_srt kk X, insAll_srt kk Y, ?_⟩
  rw [← hs, mrg_ins, List.append_nil, srtB_small kk (s := s * 2) (by rw [List.length_append]; omega)]
omit [Inhabited α] in
theorem Blk2.done {s : Nat} {l : List α} {a : Nat} {dk : Array α} (h : Blk2 kk s l a dk) (hs0 : 0 < s) (h2 : l.length ≤ a + s) : dk = (srtB kk (s * 2) l).toArray := by
  obtain ⟨P, T, hp, ht, hd, hs⟩ := h
  rw [← hs, hd, srtB_le kk hs0 (by omega), srtB_le kk (s := s * 2) (by omega) (by omega)]
end Go.Proofs.YtkenianfpfamcaaGreatDoor
