/- Spans printed as a range header are read again as they were: in plain Lean. -/
import Derived.Test.YtnodboggemggmaaGreatDoorTellsP
import Derived.Test.YtnodboggemggmaaGreatDoorSpanD
import Derived.Lib.Join
namespace Go.Proofs.YtnodboggemggmaaGreatDoor
open Go Go.RowKit

def okB (c : UInt8) : Bool := isDig c || c == 45
theorem okB_facts {c : UInt8} (h : okB c = true) : ¬ (c.toNat : Int) = 34 ∧ ¬ (c.toNat : Int) = 44 ∧ isBl c = false := by
  unfold okB at h
  rw [Bool.or_eq_true] at h
  rcases h with h | h
  · have := of_decide_eq_true h
    exact ⟨by omega, by omega, decide_eq_false (by omega)⟩
  · have := eq_of_beq h
    subst this
    exact ⟨by decide, by decide, by decide⟩
theorem itoa_ok {n : Int} (h0 : 0 ≤ n) : ∀ c, c ∈ Lib.itoa n → okB c = true := by
  obtain ⟨k, rfl⟩ := Int.eq_ofNat_of_zero_le h0
  rw [itoa_nat]
  intro c hc
  have := List.all_eq_true.1 (val_dec k).2.1 c hc
  unfold okB; rw [this]; rfl
theorem bytesL_ok {a b : Int} (h0 : 0 ≤ a) (h1 : a < b) : ∀ c, c ∈ bytesL a b → okB c = true := by
  intro c hc
  unfold bytesL at hc
  rcases List.mem_append.1 hc with hc | hc
  · rcases List.mem_append.1 hc with hc | hc
    · exact itoa_ok h0 c hc
    · rcases List.mem_cons.1 hc with rfl | hc
      · rfl
      · cases hc
  · exact itoa_ok (by omega) c hc
theorem bytesL_ne {a b : Int} : bytesL a b ≠ [] := by unfold bytesL; simp
theorem trim_all {l : List UInt8} (h : ∀ c, c ∈ l → isBl c = false) : trim l = l := by
  have hd : ∀ {l : List UInt8}, (∀ c, c ∈ l → isBl c = false) → l.dropWhile isBl = l := by
    intro l h
    cases l with
    | nil => rfl
    | cons x r => simp [h x (List.mem_cons_self ..)]
  have e1 : trimL l = l := hd h
  unfold trim trimR
  rw [e1, hd (fun c hc => h c (List.mem_reverse.1 hc)), List.reverse_reverse]
theorem splitQ_row : ∀ (p : List UInt8) (f : Nat) (r cur : List UInt8), (∀ c, c ∈ p → okB c = true) → splitQ (f + p.length) (p ++ r) cur = splitQ f r (cur ++ p)
  | [], f, r, cur, _ => by simp
  | c :: p, f, r, cur, h => by
    obtain ⟨h1, h2, _⟩ := okB_facts (h c (List.mem_cons_self ..))
    show splitQ ((f + p.length) + 1) (c :: (p ++ r)) cur = _
    rw [splitQ_else h1 h2, splitQ_row p f r _ (fun x hx => h x (List.mem_cons_of_mem _ hx)), List.append_assoc]; rfl
theorem splitQ_tail : ∀ (xs : List (List UInt8)) (f : Nat) (cur : List UInt8), (∀ x, x ∈ xs → ∀ c, c ∈ x → okB c = true) → (Lib.joinTail [44] xs).length < f → splitQ f (Lib.joinTail [44] xs) cur = some (cur :: xs)
  | [], f, cur, _, hf => by
    obtain ⟨g, rfl⟩ : ∃ g, f = g + 1 := ⟨f - 1, by omega⟩
    rfl
  | x :: xs, f, cur, h, hf => by
    have e : Lib.joinTail [44] (x :: xs) = 44 :: (x ++ Lib.joinTail [44] xs) := by simp [Lib.joinTail]
    rw [e, List.length_cons, List.length_append] at hf
    obtain ⟨g, rfl⟩ : ∃ g, f = (g + x.length) + 1 := ⟨f - 1 - x.length, by omega⟩
    rw [e, splitQ_comma (by decide), splitQ_row x g _ [] (h x (List.mem_cons_self ..)), List.nil_append,
      splitQ_tail xs g x (fun y hy => h y (List.mem_cons_of_mem _ hy)) (by omega)]
    rfl
theorem listOf_join {x : List UInt8} {xs : List (List UInt8)} (h : ∀ y, y ∈ x :: xs → (∀ c, c ∈ y → okB c = true) ∧ y ≠ []) : listOf (Lib.join (x :: xs) [44]) = some (x :: xs) := by
  have hk : keep (x :: xs) = x :: xs := by
    have hm : (x :: xs).map trim = x :: xs := by
      rw [List.map_congr_left (f := trim) (g := id) (fun y hy => trim_all (fun c hc => (okB_facts ((h y hy).1 c hc)).2.2)), List.map_id]
    unfold keep
    rw [hm, List.filter_eq_self.2]
    intro y hy
    have := (h y hy).2
    cases y with
    | nil => exact absurd rfl this
    | cons _ _ => rfl
  unfold listOf
  rw [Lib.join_cons]
  have hf : (x ++ Lib.joinTail [44] xs).length + 1 = ((Lib.joinTail [44] xs).length + 1) + x.length := by rw [List.length_append]; omega
  rw [hf, splitQ_row x _ _ [] (h x (List.mem_cons_self ..)).1, List.nil_append,
    splitQ_tail xs _ x (fun y hy => (h y (List.mem_cons_of_mem _ hy)).1) (by omega)]
  show some (keep (x :: xs)) = _
  rw [hk]

theorem num_ok (n : Int) (h0 : 0 ≤ n) (h1 : n ≤ 4611686018427387904) : numN (Lib.itoa n) = n ∧ numB (Lib.itoa n) = true := by
  obtain ⟨d1, d2⟩ := dec_ok n h0 h1
  unfold strB at d2
  have he := (of_decide_eq_true d2).1
  unfold strN at d1
  unfold numN numB
  rw [he, d1]
  exact ⟨rfl, rfl⟩
theorem elem_print (a b size : Int) (h : isO a b size = true) (h1 : size ≤ 4611686018427387904) : elemO (bytesL a b) size = some (a, b, true) := by
  unfold isO at h
  have h := of_decide_eq_true h
  obtain ⟨a1, a2⟩ := num_ok a (by omega) (by omega)
  obtain ⟨b1, b2⟩ := num_ok (b - 1) (by omega) (by omega)
  have i1 : idx 45 (bytesL a b) = some (Lib.itoa a).length := idx_mid (idx_itoa (by omega) rfl)
  have t1 : (bytesL a b).take (Lib.itoa a).length = Lib.itoa a := by unfold bytesL; simp
  have t2 : (bytesL a b).drop ((Lib.itoa a).length + 1) = Lib.itoa (b - 1) := by
    unfold bytesL
    rw [show (Lib.itoa a).length + 1 = (Lib.itoa a ++ [45]).length by simp, List.drop_left]
  have n1 : Lib.itoa a ≠ [] := fun e => by rw [e, numB_nil] at a2; exact absurd a2 (by decide)
  have n2 : Lib.itoa (b - 1) ≠ [] := fun e => by rw [e, numB_nil] at b2; exact absurd b2 (by decide)
  unfold elemO
  rw [i1]
  show (if (bytesL a b).take (Lib.itoa a).length = [] then _ else _) = _
  rw [t1, t2, if_neg n1, a2, if_neg (by decide), if_neg n2, b2, a1, b1, if_pos ⟨rfl, by omega⟩, if_pos (by omega), decide_eq_true (by omega), Int.sub_add_cancel]
theorem els_print (size : Int) (h1 : size ≤ 4611686018427387904) : ∀ (l : List (Int × Int)), (∀ x, x ∈ l → isO x.1 x.2 size = true) → els size (l.map fun x : Int × Int => bytesL x.1 x.2) = some l
  | [], _ => rfl
  | (a, b) :: l, h => by
    show (match elemO (bytesL a b) size with | none => none | some (a, b, m) => (els size (l.map fun x : Int × Int => bytesL x.1 x.2)).map fun l => if m = true then (a, b) :: l else l) = _
    rw [elem_print a b size (h (a, b) (List.mem_cons_self ..)) h1, els_print size h1 l (fun x hx => h x (List.mem_cons_of_mem _ hx))]
    rfl

def printL (l : List (Int × Int)) : List UInt8 := [98, 121, 116, 101, 115, 61] ++ Lib.join (l.map fun x : Int × Int => bytesL x.1 x.2) [44]
def areO (l : List (Int × Int)) (size : Int) : Bool := l.all fun x => isO x.1 x.2 size
def printE (l : List (Int × Int)) (size : Int) : Int := if size < 0 then 1 else if l = [] ∨ areO l size = false then 91 else 0
def printT (l : List (Int × Int)) (size : Int) : ByteArray := if printE l size = 0 then bs (printL l) else ⟨#[]⟩
theorem parse_print (l : List (Int × Int)) (size : Int) (h0 : printE l size = 0) (h1 : size ≤ 4611686018427387904) : parseE (printL l) size = 0 ∧ parseL (printL l) size = l := by
  unfold printE at h0
  split at h0
  · exact absurd h0 (by decide)
  rename_i hz
  split at h0
  · exact absurd h0 (by decide)
  rename_i hl
  have hne : l ≠ [] := fun h => hl (Or.inl h)
  have ha : areO l size = true := by cases hq : areO l size; (· exact absurd (Or.inr hq) hl); rfl
  have ha2 := List.all_eq_true.1 ha
  obtain ⟨x, r, rfl⟩ : ∃ x r, l = x :: r := by cases l with | nil => exact absurd rfl hne | cons x r => exact ⟨x, r, rfl⟩
  obtain ⟨c1, c2, c3⟩ := cut_mid (c := 61) (a := bytesW) (b := Lib.join ((x :: r).map fun x : Int × Int => bytesL x.1 x.2) [44]) rfl
  have hp : printL (x :: r) = bytesW ++ [61] ++ Lib.join ((x :: r).map fun x : Int × Int => bytesL x.1 x.2) [44] := rfl
  have hli : listOf (Lib.join ((x :: r).map fun x : Int × Int => bytesL x.1 x.2) [44]) = some ((x :: r).map fun x : Int × Int => bytesL x.1 x.2) := by
    rw [List.map_cons]
    refine listOf_join (fun y hy => ?_)
    rw [← List.map_cons (f := fun x : Int × Int => bytesL x.1 x.2)] at hy
    obtain ⟨z, hz2, rfl⟩ := List.mem_map.1 hy
    have := of_decide_eq_true (ha2 z hz2)
    exact ⟨bytesL_ok this.1 this.2.1, bytesL_ne⟩
  have hel := els_print size h1 (x :: r) ha2
  have hcond : (idx 61 (printL (x :: r))).isSome = true ∧ decide (lower (cutA 61 (printL (x :: r))) = bytesW) = true := by
    rw [hp, c1, c3]; exact ⟨rfl, rfl⟩
  unfold parseE parseL
  rw [if_neg hz, if_neg hz, if_pos hcond, if_pos hcond, hp, c2, hli]
  rw [List.map_cons] at hel ⊢
  constructor
  · show elsE (els size _) = 0
    rw [hel]; rfl
  · show (els size _).getD [] = _
    rw [hel]; rfl
theorem join_snoc (xs : List (List UInt8)) (y : List UInt8) (h : xs ≠ []) : Lib.join (xs ++ [y]) [44] = Lib.join xs [44] ++ [44] ++ y := by
  cases xs with
  | nil => exact absurd rfl h
  | cons x r =>
    rw [List.cons_append, Lib.join_cons, Lib.join_cons]
    simp [Lib.joinTail]
end Go.Proofs.YtnodboggemggmaaGreatDoor
