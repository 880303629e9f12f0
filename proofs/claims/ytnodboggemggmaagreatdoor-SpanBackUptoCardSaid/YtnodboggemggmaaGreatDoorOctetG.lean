/- Lists of octet in plain words: a text cut at commas outside quoted texts, its pieces trimmed, the empty ones left out. No program in sight but a few words on rows. -/
import Derived.Test.YtnodboggemggmaaGreatDoorOctetF
namespace Go.Proofs.YtnodboggemggmaaGreatDoor
open Go Go.RowKit

theorem unqGo_bd : ∀ (f : Nat) (l acc : List UInt8) (i : Nat) (a : List UInt8) (n : Nat), l.length ≤ f → unqGo l acc i = some (a, n) → i + 1 ≤ n ∧ n ≤ i + l.length := by
  intro f
  induction f with
  | zero =>
    intro l acc i a n hf h
    obtain rfl : l = [] := List.eq_nil_of_length_eq_zero (by omega)
    simp [unqGo] at h
  | succ f ih =>
    intro l acc i a n hf h
    rcases l with _ | ⟨c, r⟩
    · simp [unqGo] at h
    · by_cases hq : (c.toNat : Int) = 34
      · rw [unqGo_quote _ _ _ _ hq] at h; simp at h; simp; omega
      · by_cases hb : (c.toNat : Int) = 92
        · rcases r with _ | ⟨d, r⟩
          · rw [unqGo_back0 _ _ _ hb] at h; cases h
          · rw [unqGo_back1 _ _ _ _ _ hb] at h
            split at h
            · have := ih r _ _ a n (by simp at hf; omega) h; simp at this ⊢; omega
            · cases h
        · rw [unqGo_else _ _ _ _ hq hb] at h
          split at h
          · have := ih r _ _ a n (by simp at hf; omega) h; simp at this ⊢; omega
          · cases h
theorem unq_bd {l a : List UInt8} {n : Nat} (h : unq l = some (a, n)) : 1 ≤ n ∧ n ≤ l.length := by
  rcases l with _ | ⟨c, r⟩
  · simp [unq] at h
  · simp only [unq] at h
    split at h
    · have := unqGo_bd r.length r [] 1 a n (Nat.le_refl _) h; simp; omega
    · cases h

def splitQ : Nat → List UInt8 → List UInt8 → Option (List (List UInt8))
  | 0, _, _ => none
  | _ + 1, [], cur => some [cur]
  | f + 1, c :: r, cur =>
    if c.toNat = 34 then
      match unq (c :: r) with
      | none => none
      | some p => splitQ f ((c :: r).drop p.2) (cur ++ (c :: r).take p.2)
    else if c.toNat = 44 then (splitQ f r []).map (cur :: ·)
    else splitQ f r (cur ++ [c])
theorem splitQ_nil (f : Nat) (cur : List UInt8) : splitQ (f + 1) [] cur = some [cur] := rfl
theorem splitQ_q {c : UInt8} {r cur : List UInt8} {f : Nat} (h : (c.toNat : Int) = 34) : splitQ (f + 1) (c :: r) cur = match unq (c :: r) with
    | none => none
    | some p => splitQ f ((c :: r).drop p.2) (cur ++ (c :: r).take p.2) := by
  rw [splitQ, if_pos (by omega)]
theorem splitQ_comma {c : UInt8} {r cur : List UInt8} {f : Nat} (h : (c.toNat : Int) = 44) : splitQ (f + 1) (c :: r) cur = (splitQ f r []).map (cur :: ·) := by
  rw [splitQ, if_neg (by omega), if_pos (by omega)]
theorem splitQ_else {c : UInt8} {r cur : List UInt8} {f : Nat} (h1 : ¬ (c.toNat : Int) = 34) (h2 : ¬ (c.toNat : Int) = 44) : splitQ (f + 1) (c :: r) cur = splitQ f r (cur ++ [c]) := by
  rw [splitQ, if_neg (by omega), if_neg (by omega)]

theorem splitQ_fuel : ∀ (f : Nat) (l cur : List UInt8) (g : Nat), l.length < f → l.length < g → splitQ f l cur = splitQ g l cur := by
  intro f
  induction f with
  | zero => intro l cur g h; omega
  | succ f ih =>
    intro l cur g hf hg
    obtain ⟨g, rfl⟩ : ∃ k, g = k + 1 := ⟨g - 1, by omega⟩
    rcases l with _ | ⟨c, r⟩
    · rfl
    · simp only [List.length_cons] at hf hg
      by_cases hq : (c.toNat : Int) = 34
      · rw [splitQ_q hq, splitQ_q hq]
        cases hu : unq (c :: r) with
        | none => rfl
        | some p =>
          have := unq_bd (a := p.1) (n := p.2) hu
          exact ih _ _ _ (by simp; omega) (by simp; omega)
      · by_cases hc : (c.toNat : Int) = 44
        · rw [splitQ_comma hc, splitQ_comma hc, ih r [] g (by omega) (by omega)]
        · rw [splitQ_else hq hc, splitQ_else hq hc, ih r _ g (by omega) (by omega)]
def keep (ps : List (List UInt8)) : List (List UInt8) := (ps.map trim).filter fun x => !x.isEmpty
theorem keep_snoc_no (ps : List (List UInt8)) (x : List UInt8) (h : trim x = []) : keep (ps ++ [x]) = keep ps := by simp [keep, h]
theorem keep_snoc_yes (ps : List (List UInt8)) (x : List UInt8) (h : ¬ trim x = []) : keep (ps ++ [x]) = keep ps ++ [trim x] := by
  have : (trim x).isEmpty = false := by cases hx : trim x <;> simp_all
  simp [keep, this]
theorem keep_le (ps : List (List UInt8)) : (keep ps).length ≤ ps.length := by
  have := List.length_filter_le (fun x : List UInt8 => !x.isEmpty) (ps.map trim)
  simpa [keep] using this
def listOf (l : List UInt8) : Option (List (List UInt8)) := (splitQ (l.length + 1) l []).map keep
def listE (o : Option (List (List UInt8))) : Int := match o with | none => 14 | some _ => 0
def listL (o : Option (List (List UInt8))) : List (List UInt8) := match o with | none => [] | some xs => xs

/-- how a text stands as an element -/
def strV (l : List UInt8) : Value := .string (bs l)
/-- a slice of texts of the call's own -/
def Texts (w : World) (base : Nat) (v : Value) (xs : List (List UInt8)) : Prop := w.ownsRow base 9 1 v xs.length (xs.map strV)
theorem texts_snoc {w : World} {base : Nat} {v : Value} {xs : List (List UInt8)} {x : List UInt8} (h : w.ownsRow base 9 1 v (xs.length + 1) (xs.map strV ++ [strV x])) : Texts w base v (xs ++ [x]) := by
  unfold Texts; rw [List.length_append, List.map_append]; exact h
theorem own_mono {w : World} {b b' : Nat} {e : TypeId} {size n : Nat} {v : Value} {xs : List Value} (h : w.ownsRow b e size v n xs) (hb : b' ≤ b) : w.ownsRow b' e size v n xs := by
  refine ⟨h.1, ?_⟩
  rcases h.2 with h | ⟨g, cap, cur, h1, h2, r⟩
  · exact Or.inl h
  · exact Or.inr ⟨g, cap, cur, h1, Nat.le_trans hb h2, r⟩
/-- what is owned stays as it is in a world that is as it was below a number beyond its block -/
theorem own_keep {w w' : World} {b B : Nat} {e : TypeId} {size n : Nat} {v : Value} {xs : List Value} (h : w.ownsRow b e size v n xs) (hb : Below B w w') (hB : w.heap.size ≤ B) : w'.ownsRow b e size v n xs := by
  refine ⟨h.1, ?_⟩
  rcases h.2 with h | ⟨g, cap, cur, h1, h2, h3, r⟩
  · exact Or.inl h
  · refine Or.inr ⟨g, cap, cur, h1, h2, ?_, r⟩
    have : g < w.heap.size := by
      rcases Nat.lt_or_ge g w.heap.size with h | h
      · exact h
      · rw [Array.getElem?_eq_none h] at h3; cases h3
    rw [hb.block g (by omega)]; exact h3
theorem infoString : (Tryz.prog.info? 9).map (fun i => (i.zero, i.size, i.bytes)) = some (some (.string ⟨#[]⟩), 1, 16) := by kernel_rfl
end Go.Proofs.YtnodboggemggmaaGreatDoor
