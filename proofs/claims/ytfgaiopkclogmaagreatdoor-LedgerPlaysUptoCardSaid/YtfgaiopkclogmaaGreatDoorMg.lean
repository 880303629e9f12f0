/- Totals in plain Lean: sums that stop at the greatest number, classes, how often each text stands in a list. The document's count in plain Lean, rows of texts with counts. Texts with counts in order, in plain Lean: the most first, among equals the lesser text first; the first so many of them. -/
import Derived.Test.YtfgaiopkclogmaaGreatDoorLedgCdJ
import Derived.Maps.OwnSet
import Derived.Maps.Views
import Derived.Maps.OwnOps
import Derived.Test.YtfgaiopkclogmaaGreatDoorMf
import Derived.Lib.Bytealg
import GoSem.ClaimWide
import Derived.WideAt
import Derived.WideShapes
namespace Go.Proofs.YtfgaiopkclogmaaGreatDoor
open Go Go.RowKit Go.WideShapes

abbrev Tx := List UInt8
/-- how often each text stands in a list, in the order in which they come first -/
def bump : List (Tx × Int) → Tx → List (Tx × Int)
  | [], x => [(x, 1)]
  | (y, n) :: r, x => if y = x then (y, n + 1) :: r else (y, n) :: bump r x
def cntF (xs : List Tx) : List (Tx × Int) := xs.foldl bump []
theorem cntF_snoc (xs : List Tx) (x : Tx) : cntF (xs ++ [x]) = bump (cntF xs) x := by unfold cntF; rw [List.foldl_append]; rfl
def keysF (c : List (Tx × Int)) : List Tx := c.map (·.1)
theorem bump_keys : ∀ (c : List (Tx × Int)) (x : Tx), keysF (bump c x) = if x ∈ keysF c then keysF c else keysF c ++ [x]
  | [], x => rfl
  | (y, n) :: r, x => by
    unfold bump
    by_cases h : y = x
    · rw [if_pos h, if_pos (by rw [h]; exact List.mem_cons_self ..)]; rfl
    · rw [if_neg h]
      show y :: keysF (bump r x) = _
      rw [bump_keys r x, show keysF ((y, n) :: r) = y :: keysF r from rfl]
      by_cases hm : x ∈ keysF r
      · rw [if_pos hm, if_pos (List.mem_cons_of_mem _ hm)]
      · rw [if_neg hm, if_neg (by
          intro hc
          rcases List.mem_cons.1 hc with e | e
          · exact h e.symm
          · exact hm e)]
        rfl
theorem keys_len (c : List (Tx × Int)) : (keysF c).length = c.length := by unfold keysF; rw [List.length_map]
theorem bump_len (c : List (Tx × Int)) (x : Tx) : (bump c x).length = if x ∈ keysF c then c.length else c.length + 1 := by
  rw [← keys_len, bump_keys]
  split
  · rw [keys_len]
  · rw [List.length_append, keys_len]; rfl
theorem mem_keys_cnt : ∀ (xs : List Tx) (k : Tx), k ∈ keysF (cntF xs) ↔ k ∈ xs := by
  intro xs
  refine snoc_ind (P := fun xs => ∀ k, k ∈ keysF (cntF xs) ↔ k ∈ xs) (fun k => by simp [cntF, keysF]) (fun l c ih k => ?_) xs
  rw [cntF_snoc, bump_keys]
  split
  · rename_i h
    rw [ih, List.mem_append, List.mem_singleton]
    constructor
    · exact Or.inl
    · rintro (h1 | rfl)
      · exact h1
      · exact (ih _).1 h
  · rw [List.mem_append, List.mem_append, ih]
def cntIn (c : List (Tx × Int)) (k : Tx) : Int := match c.find? (fun p => decide (p.1 = k)) with | some p => p.2 | none => 0
theorem bump_cnt : ∀ (c : List (Tx × Int)) (x k : Tx), cntIn (bump c x) k = cntIn c k + if k = x then 1 else 0
  | [], x, k => by
    unfold cntIn bump
    by_cases h : x = k
    · simp [h]
    · simp [h, Ne.symm h]
  | (y, n) :: r, x, k => by
    have ih := bump_cnt r x k
    unfold cntIn at ih ⊢
    unfold bump
    by_cases h : y = x
    · rw [if_pos h]
      by_cases hk : y = k
      · subst h hk; simp
      · rw [List.find?_cons, List.find?_cons]
        simp only [hk, decide_false]
        rw [if_neg (fun e => hk (by rw [h, e]))]; simp
    · rw [if_neg h, List.find?_cons, List.find?_cons]
      by_cases hk : y = k
      · simp only [hk, decide_true]
        rw [if_neg (fun e => h (by rw [hk, e]))]; simp
      · simp only [hk, decide_false]; exact ih

/-- the map that counts -/
def keyL (x : Tx) : Lit := .string x
theorem keyOk (x : Tx) : WideAt.IsKeyLit (keyL x) := trivial
def mapC (xs : List Tx) : DataW Unit := xs.foldl (fun m x => m.put (keyL x) (match m.atKey (keyL x) (.lit (.int .i64 0)) with | .lit (.int .i64 c) => .lit (.int .i64 (c + 1)) | d => d)) (.map [])
theorem mapC_snoc (xs : List Tx) (x : Tx) {c : Int} (h : (mapC xs).atKey (keyL x) (.lit (.int .i64 0)) = .lit (.int .i64 c)) : mapC (xs ++ [x]) = (mapC xs).put (keyL x) (.lit (.int .i64 (c + 1))) := by
  unfold mapC at h ⊢
  rw [List.foldl_append, List.foldl_cons, List.foldl_nil, h]
theorem mapC_facts : ∀ (xs : List Tx), Maps.Tidy (mapC xs) ∧ (∀ k, (mapC xs).atKey (keyL k) (.lit (.int .i64 0)) = .lit (.int .i64 (cntIn (cntF xs) k))) ∧ (∀ k, Maps.has (mapC xs) (keyL k) = decide (k ∈ xs)) ∧ Maps.size (mapC xs) = (cntF xs).length := by
  intro xs
  refine snoc_ind (P := fun xs => Maps.Tidy (mapC xs) ∧ (∀ k, (mapC xs).atKey (keyL k) (.lit (.int .i64 0)) = .lit (.int .i64 (cntIn (cntF xs) k))) ∧ (∀ k, Maps.has (mapC xs) (keyL k) = decide (k ∈ xs)) ∧ Maps.size (mapC xs) = (cntF xs).length) ⟨Maps.tidy_empty, fun k => rfl, fun k => by simp [mapC, Maps.has], rfl⟩ ?_ xs
  rintro l x ⟨h1, h2, h3, h4⟩
  have hs := mapC_snoc l x (h2 x)
  rw [hs, cntF_snoc]
  refine ⟨h1.put (keyOk x) _, fun k => ?_, fun k => ?_, ?_⟩
  · by_cases hk : k = x
    · subst hk
      rw [Maps.atKey_put_same h1.isMap (keyOk _), bump_cnt, if_pos rfl]
    · rw [Maps.atKey_put_other (by intro e; injection e with e; exact hk e), h2, bump_cnt, if_neg hk, Int.add_zero]
  · by_cases hk : k = x
    · subst hk
      rw [Maps.has_put_same h1.isMap (keyOk _), decide_eq_true (by simp)]
    · rw [Maps.has_put_other (by intro e; injection e with e; exact hk e), h3, Bool.eq_iff_iff, decide_eq_true_eq, decide_eq_true_eq, List.mem_append, List.mem_singleton]
      simp [hk]
  · rw [Maps.size_put h1, h3, h4, bump_len]
    by_cases hx : x ∈ l
    · rw [decide_eq_true hx, if_pos rfl, if_pos ((mem_keys_cnt l x).2 hx)]
    · rw [decide_eq_false hx, if_neg (by decide), if_neg (fun h => hx ((mem_keys_cnt l x).1 h))]
theorem cntIn_le (xs : List Tx) (k : Tx) : 0 ≤ cntIn (cntF xs) k ∧ cntIn (cntF xs) k ≤ xs.length := by
  refine snoc_ind (P := fun xs => 0 ≤ cntIn (cntF xs) k ∧ cntIn (cntF xs) k ≤ xs.length) (by simp [cntF, cntIn]) (fun l c ih => ?_) xs
  rw [cntF_snoc, bump_cnt, List.length_append, List.length_singleton]
  split <;> omega
theorem cntF_len (xs : List Tx) : (cntF xs).length ≤ xs.length := by
  refine snoc_ind (P := fun xs => (cntF xs).length ≤ xs.length) (Nat.le_refl _) (fun l c ih => ?_) xs
  rw [cntF_snoc, bump_len, List.length_append, List.length_singleton]
  split <;> omega

/-- the bytes of entries, at most the greatest number -/
def bytesL (l : List En) : Int := l.foldl (fun b e => if 9223372036854775807 - b < e.byts then 9223372036854775807 else b + e.byts) 0
theorem bytesL_snoc (l : List En) (e : En) : bytesL (l ++ [e]) = if 9223372036854775807 - bytesL l < e.byts then 9223372036854775807 else bytesL l + e.byts := by unfold bytesL; rw [List.foldl_append]; rfl
theorem bytesL_bd (l : List En) (h : ∀ e ∈ l, 0 ≤ e.byts) : 0 ≤ bytesL l ∧ bytesL l ≤ 9223372036854775807 := by
  revert h
  refine snoc_ind (P := fun l => (∀ e ∈ l, 0 ≤ e.byts) → 0 ≤ bytesL l ∧ bytesL l ≤ 9223372036854775807) (fun _ => by simp [bytesL]) (fun l c ih h => ?_) l
  have := ih (fun e he => h e (by simp [he]))
  have hc := h c (by simp)
  rw [bytesL_snoc]
  split <;> omega
def clsL (c : Int) (l : List En) : Int := ((l.filter fun e => decide (e.stat / 100 = c)).length : Nat)
theorem clsL_snoc (c : Int) (l : List En) (e : En) : clsL c (l ++ [e]) = clsL c l + if e.stat / 100 = c then 1 else 0 := by
  unfold clsL
  rw [List.filter_append, List.length_append]
  by_cases h : e.stat / 100 = c <;> simp [h]
theorem clsL_le (c : Int) (l : List En) : 0 ≤ clsL c l ∧ clsL c l ≤ l.length := by
  unfold clsL
  have := List.length_filter_le (fun e : En => decide (e.stat / 100 = c)) l
  omega
def namesL (l : List En) : List Tx := l.map (·.name)
def pathsL (l : List En) : List Tx := l.map fun e => pathL e.tgt
/-- a totals' cells -/
def totC (n b c1 c2 c3 c4 c5 x y : Int) : Array Value := #[.int .i64 n, .int .i64 b, .int .i64 c1, .int .i64 c2, .int .i64 c3, .int .i64 c4, .int .i64 c5, .int .i64 x, .int .i64 y]
def totL (l : List En) : Array Value := totC (l.length : Nat) (bytesL l) (clsL 1 l) (clsL 2 l) (clsL 3 l) (clsL 4 l) (clsL 5 l) ((cntF (namesL l)).length : Nat) ((cntF (pathsL l)).length : Nat)
end Go.Proofs.YtfgaiopkclogmaaGreatDoor
namespace Go.Proofs.YtfgaiopkclogmaaGreatDoor
open Go Go.RowKit

/-- 'append(v, x)', x a struct of two cells -/
theorem append2 {P : Program} {w : World} {ops : Array Oper} {rest : List Oper} {o : Oper} {a : Act} {Q : Exit → Act → World → Prop} (hgd : o.guard = none) (s x : Operand) (t : TypeId)
    (ho : o.op = .call { callee := .builtin .append, args := #[s, x], argTypes := #[t, t] })
    (base : Nat) (e : TypeId) (i : TypeInfo) (z : Value) (bytes : Nat) (ht : P.underlying t = some (.slice e)) (hi : P.info? e = some i) (hz : i.zero = some z)
    (hsize : i.size = 2) (hby : i.bytes = bytes) (hzs : z.cells.size = 2)
    {v : Value} {n : Nat} {xs : List Value} (hown : w.ownsRow base e 2 v n xs) (hs : a.eval s = v)
    (u1 u2 : Value) (hu1 : u1.oneCell' = true) (hu2 : u2.oneCell' = true) {nb : Nat} (hx : a.eval x = .slice (some ⟨nb, 0, none⟩) 1 1) (hnb : nb = w.heap.size)
    (hn : n + 1 ≤ maxLen) (hbytes : (n + 1) * bytes ≤ 140737488355328) (hbase : base ≤ w.heap.size)
    (h : ∀ g cap w', base ≤ g → w'.ownsRow base e 2 (.slice (some ⟨g, 0, none⟩) (n + 1) cap) (n + 1) (xs ++ [u1, u2]) → Below base w w' → wpList P ops Q rest (a.put o.dst (.slice (some ⟨g, 0, none⟩) (n + 1) cap)) w') :
    wpList P ops Q (o :: rest) a (w.alloc (.cells #[u1, u2] e)) := by
  subst hnb
  have hw : base ≤ (w.alloc (.cells #[u1, u2] e)).heap.size := by
    show base ≤ (w.heap.push _).size
    rw [Array.size_push]; omega
  refine wpList_append_own (w.alloc (.cells #[u1, u2] e)) hgd s x t ho base e i z 2 bytes ht hi hz hsize hby hzs (by decide) v n xs hs (hown.alloc _) ⟨w.heap.size, 0, none⟩ 1 1 [u1, u2] hx rfl ?_ ?_ hn hbytes hw ?_
  · intro j y hj
    match j, hj with
    | 0, hj =>
      simp at hj; subst hj
      rw [Addr.add_lit]
      exact World.cell?_alloc_mark w #[u1, u2] e (0, 0) 0
    | 1, hj =>
      simp at hj; subst hj
      rw [Addr.add_lit]
      exact World.cell?_alloc_mark w #[u1, u2] e (0, 0) 1
  · intro y hy
    rcases List.mem_cons.1 hy with rfl | hy
    · exact hu1
    · rw [List.mem_singleton] at hy; subst hy; exact hu2
  · intro v' w' hown' hgrow _
    rcases hown'.2 with ⟨_, h0⟩ | ⟨g, cap, cur, rfl, hg, _⟩
    · omega
    · exact h g cap w' hg hown' (((Below.refl _ _).alloc hbase _).trans (own_below (hown.alloc _) hgrow hw))

def encT (p : Tx × Int) : List Value := [.string (bs p.1), .int .i64 p.2]
def rowT (c : List (Tx × Int)) : List Value := c.flatMap encT
theorem rowT_snoc (c : List (Tx × Int)) (p : Tx × Int) : rowT c ++ [.string (bs p.1), .int .i64 p.2] = rowT (c ++ [p]) := by simp [rowT, encT]
theorem rowT_len (c : List (Tx × Int)) : (rowT c).length = c.length * 2 := by
  induction c with
  | nil => rfl
  | cons p c ih => simp only [rowT, List.flatMap_cons, List.length_append, List.length_cons] at ih ⊢; rw [ih]; simp [encT]; omega
theorem rowT_get (c : List (Tx × Int)) (k : Nat) (h : k < c.length) : (rowT c)[k * 2]? = some (.string (bs c[k].1)) ∧ (rowT c)[k * 2 + 1]? = some (.int .i64 c[k].2) := by
  induction c generalizing k with
  | nil => simp at h
  | cons p c ih =>
    cases k with
    | zero => exact ⟨rfl, rfl⟩
    | succ k =>
      have := ih k (by simpa using h)
      have e1 : (k + 1) * 2 = k * 2 + 2 := by omega
      rw [e1]
      exact this
theorem rowT_set (c : List (Tx × Int)) (k : Nat) (h : k < c.length) (n : Int) : (rowT c).set (k * 2 + 1) (.int .i64 n) = rowT (c.set k (c[k].1, n)) := by
  induction c generalizing k with
  | nil => simp at h
  | cons p c ih =>
    cases k with
    | zero => rfl
    | succ k =>
      have := ih k (by simpa using h)
      have e1 : (k + 1) * 2 + 1 = (k * 2 + 1) + 2 := by omega
      rw [e1]
      show _ :: _ :: (rowT c).set (k * 2 + 1) _ = _
      rw [this]; rfl
/-- one more at each place where the text stands -/
def bmp (x : Tx) (c : List (Tx × Int)) : List (Tx × Int) := c.map fun p => if p.1 = x then (p.1, p.2 + 1) else p
def midB (x : Tx) (c : List (Tx × Int)) (k : Nat) : List (Tx × Int) := bmp x (c.take k) ++ c.drop k
theorem bmp_len (x : Tx) (c : List (Tx × Int)) : (bmp x c).length = c.length := by unfold bmp; rw [List.length_map]
theorem midB_len (x : Tx) (c : List (Tx × Int)) (k : Nat) : (midB x c k).length = c.length := by unfold midB; rw [List.length_append, bmp_len, ← List.length_append, List.take_append_drop]
theorem midB_get (x : Tx) (c : List (Tx × Int)) (k : Nat) (h : k < c.length) : (midB x c k)[k]? = some c[k] := by
  unfold midB
  rw [List.getElem?_append_right (by rw [bmp_len, List.length_take]; omega), bmp_len, List.length_take, List.getElem?_drop, show k + (k - min k c.length) = k by omega, List.getElem?_eq_getElem h]
theorem midB_succ (x : Tx) (c : List (Tx × Int)) (k : Nat) (h : k < c.length) : midB x c (k + 1) = if c[k].1 = x then (midB x c k).set k (c[k].1, c[k].2 + 1) else midB x c k := by
  have hl : (bmp x (c.take k)).length = k := by rw [bmp_len, List.length_take]; omega
  have e1 : bmp x (c.take (k + 1)) = bmp x (c.take k) ++ [if c[k].1 = x then (c[k].1, c[k].2 + 1) else c[k]] := by
    unfold bmp; rw [List.take_succ_eq_append_getElem h, List.map_append]; rfl
  have e2 : c.drop k = c[k] :: c.drop (k + 1) := List.drop_eq_getElem_cons h
  unfold midB
  rw [e1, e2]
  by_cases hx : c[k].1 = x
  · rw [if_pos hx, if_pos hx, List.set_append_right _ _ (by omega), hl, Nat.sub_self, List.set_cons_zero, List.append_assoc]; rfl
  · rw [if_neg hx, if_neg hx, List.append_assoc]; rfl
theorem mem_take_succ (x : Tx) (c : List (Tx × Int)) (k : Nat) (h : k < c.length) : decide (x ∈ keysF (c.take (k + 1))) = (decide (x ∈ keysF (c.take k)) || decide (c[k].1 = x)) := by
  rw [List.take_succ_eq_append_getElem h]
  unfold keysF
  rw [List.map_append, Bool.eq_iff_iff, Bool.or_eq_true, decide_eq_true_eq, decide_eq_true_eq, decide_eq_true_eq, List.mem_append, List.map_singleton, List.mem_singleton]
  exact or_congr Iff.rfl ⟨Eq.symm, Eq.symm⟩
theorem bmp_not (x : Tx) (c : List (Tx × Int)) (h : x ∉ keysF c) : bmp x c = c := by
  induction c with
  | nil => rfl
  | cons p c ih =>
    unfold keysF at h ih
    simp at h ih
    unfold bmp at ih ⊢
    rw [List.map_cons, if_neg (fun e => h.1 e.symm)]
    rw [ih (by intro q; exact h.2 q)]
theorem bump_bmp (x : Tx) (c : List (Tx × Int)) (hn : (keysF c).Nodup) : bump c x = if x ∈ keysF c then bmp x c else c ++ [(x, 1)] := by
  induction c with
  | nil => rfl
  | cons p c ih =>
    obtain ⟨y, n⟩ := p
    have hn2 := List.nodup_cons.1 (show (y :: keysF c).Nodup from hn)
    unfold bump
    rw [show keysF ((y, n) :: c) = y :: keysF c from rfl]
    by_cases h : y = x
    · subst h
      rw [if_pos rfl, if_pos (show y ∈ y :: keysF c from List.mem_cons_self ..)]
      unfold bmp
      rw [List.map_cons, if_pos rfl]
      rw [show c.map _ = c from bmp_not y c hn2.1]
    · rw [if_neg h, ih hn2.2]
      by_cases hm : x ∈ keysF c
      · rw [if_pos hm, if_pos (show x ∈ y :: keysF c from List.mem_cons_of_mem _ hm)]
        unfold bmp
        rw [List.map_cons, if_neg h]
      · rw [if_neg hm, if_neg (show ¬ x ∈ y :: keysF c from fun e => by
          rcases List.mem_cons.1 e with e | e
          · exact h e.symm
          · exact hm e)]
        rfl
theorem cnt_nodup (xs : List Tx) : (keysF (cntF xs)).Nodup := by
  refine snoc_ind (P := fun xs => (keysF (cntF xs)).Nodup) List.nodup_nil (fun l c ih => ?_) xs
  rw [cntF_snoc, bump_keys]
  split
  · exact ih
  · rename_i h
    rw [List.nodup_append]
    refine ⟨ih, by simp, ?_⟩
    intro a ha b hb
    rw [List.mem_singleton] at hb
    subst hb
    intro e; subst e; exact h ha
theorem bump_bd (c : List (Tx × Int)) (x : Tx) (m : Int) (hm : 0 ≤ m) (h : ∀ p ∈ c, 0 ≤ p.2 ∧ p.2 ≤ m) : ∀ p ∈ bump c x, 0 ≤ p.2 ∧ p.2 ≤ m + 1 := by
  induction c with
  | nil => intro p hp; rw [show bump [] x = [(x, 1)] from rfl, List.mem_singleton] at hp; subst hp; simp; omega
  | cons q c ih =>
    obtain ⟨y, n⟩ := q
    have h1 := h (y, n) (List.mem_cons_self ..)
    have h2 := fun p hp => h p (List.mem_cons_of_mem _ hp)
    intro p hp
    unfold bump at hp
    split at hp
    · rcases List.mem_cons.1 hp with rfl | hp
      · simp at h1 ⊢; omega
      · have := h2 p hp; omega
    · rcases List.mem_cons.1 hp with rfl | hp
      · simp at h1 ⊢; omega
      · exact ih h2 p hp
theorem cnt_bd (xs : List Tx) : ∀ p ∈ cntF xs, 0 ≤ p.2 ∧ p.2 ≤ xs.length := by
  refine snoc_ind (P := fun xs => ∀ p ∈ cntF xs, 0 ≤ p.2 ∧ p.2 ≤ xs.length) (by intro p hp; simp [cntF] at hp) (fun l c ih => ?_) xs
  rw [cntF_snoc, List.length_append, List.length_singleton]
  have := bump_bd (cntF l) c l.length (by omega) ih
  intro p hp
  have := this p hp
  omega
def strsT (xs : List Tx) : List Value := xs.map fun x => .string (bs x)
theorem strsT_get (xs : List Tx) (k : Nat) (h : k < xs.length) : (strsT xs)[k]? = some (.string (bs xs[k])) := by unfold strsT; rw [List.getElem?_map, List.getElem?_eq_getElem h]; rfl
end Go.Proofs.YtfgaiopkclogmaaGreatDoor
namespace Go.Proofs.YtfgaiopkclogmaaGreatDoor
open Go Go.RowKit Go.WideShapes Go.WideAt

theorem less_before : ∀ a b : Tx, Op.bytesLess a b = bytesBefore a b
  | [], [] => rfl
  | [], _ :: _ => rfl
  | _ :: _, [] => rfl
  | a :: x, b :: y => by
    unfold Op.bytesLess bytesBefore
    rw [less_before x y]
theorem cmp_self : ∀ a : Tx, Lib.compareBytes a a = 0
  | [] => rfl
  | x :: a => by
    unfold Lib.compareBytes
    rw [if_neg (by rw [UInt8.lt_iff_toNat_lt]; omega), if_neg (by rw [UInt8.lt_iff_toNat_lt]; omega)]
    exact cmp_self a
theorem cmp_before : ∀ a b : Tx, (Lib.compareBytes a b < 0 ↔ bytesBefore a b = true) ∧ (0 < Lib.compareBytes a b ↔ bytesBefore b a = true)
  | [], [] => ⟨by decide, by decide⟩
  | [], _ :: _ => ⟨by simp [Lib.compareBytes, bytesBefore], by simp [Lib.compareBytes, bytesBefore]⟩
  | _ :: _, [] => ⟨by simp [Lib.compareBytes, bytesBefore], by simp [Lib.compareBytes, bytesBefore]⟩
  | x :: a, y :: b => by
    have ih := cmp_before a b
    unfold Lib.compareBytes bytesBefore
    rcases Nat.lt_trichotomy x.toNat y.toNat with h | h | h
    · have h1 : x < y := UInt8.lt_iff_toNat_lt.2 h
      have h2 : ¬ y < x := by rw [UInt8.lt_iff_toNat_lt]; omega
      have h3 : (y == x) = false := by rw [beq_eq_false_iff_ne]; intro e; subst e; omega
      simp [h1, h2, h3]
    · have e := UInt8.toNat_inj.1 h
      subst e
      have h1 : ¬ x < x := by rw [UInt8.lt_iff_toNat_lt]; omega
      simp [h1]
      exact ih
    · have h1 : y < x := UInt8.lt_iff_toNat_lt.2 h
      have h2 : ¬ x < y := by rw [UInt8.lt_iff_toNat_lt]; omega
      have h3 : (x == y) = false := by rw [beq_eq_false_iff_ne]; intro e; subst e; omega
      simp [h1, h2, h3]
/-- stands ahead of -/
def befT (p q : Tx × Int) : Bool := decide (q.2 < p.2) || (decide (p.2 = q.2) && bytesBefore p.1 q.1)
theorem befT_iff (p q : Tx × Int) : befT p q = true ↔ q.2 < p.2 ∨ p.2 = q.2 ∧ bytesBefore p.1 q.1 = true := by simp [befT]
theorem befT_irrefl (p : Tx × Int) : befT p p = false := by
  rw [Bool.eq_false_iff, ne_eq, befT_iff]
  rintro (h | ⟨_, h⟩)
  · omega
  · rw [bytes_irrefl] at h; cases h
theorem befT_trans {p q r : Tx × Int} (h : befT p q = true) (k : befT q r = true) : befT p r = true := by
  rw [befT_iff] at *
  rcases h with h | ⟨h, h'⟩ <;> rcases k with k | ⟨k, k'⟩
  · left; omega
  · left; omega
  · left; omega
  · right; exact ⟨by omega, bytes_trans _ _ _ h' k'⟩
theorem befT_total (p q : Tx × Int) (h : p ≠ q) : befT p q = true ∨ befT q p = true := by
  rw [befT_iff, befT_iff]
  rcases Int.lt_trichotomy p.2 q.2 with h1 | h1 | h1
  · right; left; exact h1
  · have hn : p.1 ≠ q.1 := fun e => h (Prod.ext e h1)
    rcases bytes_total _ _ hn with h2 | h2
    · left; right; exact ⟨h1, h2⟩
    · right; right; exact ⟨h1.symm, h2⟩
  · left; left; exact h1
theorem befT_not {p q : Tx × Int} (h : befT p q = true) : befT q p = false := by
  rw [Bool.eq_false_iff]
  intro k
  have := befT_trans h k
  rw [befT_irrefl] at this
  cases this
theorem befT_ntrans {p q r : Tx × Int} (h : befT p q = false) (k : befT q r = false) : befT p r = false := by
  by_cases e1 : p = q
  · rw [e1]; exact k
  by_cases e2 : q = r
  · rw [← e2]; exact h
  have h1 := (befT_total p q e1).resolve_left (by rw [h]; decide)
  have h2 := (befT_total q r e2).resolve_left (by rw [k]; decide)
  exact befT_not (befT_trans h2 h1)
def srtT (c : List (Tx × Int)) : List (Tx × Int) := c.mergeSort (fun a b => !befT b a)
theorem srtT_perm (c : List (Tx × Int)) : (srtT c).Perm c := List.mergeSort_perm _ _
theorem srtT_sorted (c : List (Tx × Int)) : (srtT c).Pairwise (fun a b => befT b a = false) := by
  have := List.pairwise_mergeSort (le := fun a b => !befT b a) (fun a b d h k => by simp at h k ⊢; exact befT_ntrans k h) (fun a b => by
    by_cases h : befT b a = true
    · have := befT_not h; simp [this]
    · simp [h]) c
  exact this.imp (fun {a b} h => by simpa using h)
theorem srtT_unique {l c : List (Tx × Int)} (hp : l.Perm c) (hs : l.Pairwise (fun a b => befT b a = false)) : l = srtT c := by
  refine List.Perm.eq_of_pairwise (le := fun a b => befT b a = false) (fun a b _ _ h1 h2 => ?_) hs (srtT_sorted c) (hp.trans (srtT_perm c).symm)
  by_cases e : a = b
  · exact e
  · rcases befT_total a b e with h | h
    · rw [h2] at h; cases h
    · rw [h1] at h; cases h
theorem srtT_len (c : List (Tx × Int)) : (srtT c).length = c.length := (srtT_perm c).length_eq
def topC (c : List (Tx × Int)) (n : Int) : List (Tx × Int) := (srtT c).take n.toNat
def topL (l : List En) (n : Int) : List (Tx × Int) := topC (cntF (pathsL l)) n
/-- the comparison of the program -/
def cfT (p q : Tx × Int) : Int := if p.2 = q.2 then Lib.compareBytes p.1 q.1 else q.2 - p.2
theorem cfT_neg (p q : Tx × Int) : decide (cfT p q < 0) = befT p q := by
  rw [Bool.eq_iff_iff, befT_iff, decide_eq_true_eq]
  unfold cfT
  by_cases h : p.2 = q.2
  · rw [if_pos h, (cmp_before p.1 q.1).1]
    constructor
    · intro k; exact Or.inr ⟨h, k⟩
    · rintro (k | ⟨_, k⟩)
      · omega
      · exact k
  · rw [if_neg h]
    constructor
    · intro k; left; omega
    · rintro (k | ⟨k, _⟩) <;> omega
/-- what is left when so many have been taken: the best of it is the next -/
theorem next_best {S left : List (Tx × Int)} {k : Nat} (hs : S.Pairwise (fun a b => befT b a = false)) (hp : left.Perm (S.drop k)) {b : Tx × Int} (hb : b ∈ left) (hbest : ∀ x ∈ left, befT x b = false) : S[k]? = some b := by
  have hm : b ∈ S.drop k := hp.mem_iff.1 hb
  cases hd : S.drop k with
  | nil => rw [hd] at hm; cases hm
  | cons a r =>
    have hk : S[k]? = some a := by
      rw [← List.head?_drop, hd]; rfl
    rw [hk]
    rw [hd] at hm
    rcases List.mem_cons.1 hm with rfl | hr
    · rfl
    · have h1 : befT a b = false := hbest a (hp.mem_iff.2 (by rw [hd]; exact List.mem_cons_self ..))
      have h2 : befT b a = false := by
        have hpw : (S.drop k).Pairwise (fun a b => befT b a = false) := hs.sublist (List.drop_sublist _ _)
        rw [hd] at hpw
        exact (List.pairwise_cons.1 hpw).1 b hr
      by_cases e : a = b
      · rw [e]
      · rcases befT_total a b e with h | h
        · rw [h1] at h; cases h
        · rw [h2] at h; cases h
theorem drop_erase {S left : List (Tx × Int)} {k j : Nat} (hp : left.Perm (S.drop k)) (hj : j < left.length) (hk : S[k]? = some left[j]) : (left.take j ++ left.drop (j + 1)).Perm (S.drop (k + 1)) := by
  have h1 : left.Perm (left[j] :: (left.take j ++ left.drop (j + 1))) := by
    have h := (List.perm_middle (a := left[j]) (l₁ := left.take j) (l₂ := left.drop (j + 1)))
    rw [← List.drop_eq_getElem_cons hj, List.take_append_drop] at h
    exact h
  have h2 : S.drop k = left[j] :: S.drop (k + 1) := by
    have hlt : k < S.length := by
      rcases Nat.lt_or_ge k S.length with h | h
      · exact h
      · rw [List.getElem?_eq_none h] at hk; cases hk
    rw [List.drop_eq_getElem_cons hlt]
    rw [List.getElem?_eq_getElem hlt] at hk
    injection hk with hk
    rw [hk]
  rw [h2] at hp
  exact (List.Perm.cons_inv (h1.symm.trans hp))
theorem keys_nodup (xs : List Tx) : (keysF (cntF xs)).Nodup := by
  refine snoc_ind (P := fun xs => (keysF (cntF xs)).Nodup) (by simp [cntF, keysF]) (fun l c ih => ?_) xs
  rw [cntF_snoc, bump_keys]
  split
  · exact ih
  · rename_i h
    rw [List.nodup_append]
    refine ⟨ih, by simp, fun a ha b hb => ?_⟩
    rw [List.mem_singleton] at hb
    subst hb
    intro e
    subst e
    exact h ha
theorem cntIn_cons (y : Tx) (m : Int) (r : List (Tx × Int)) (k : Tx) : cntIn ((y, m) :: r) k = if y = k then m else cntIn r k := by
  unfold cntIn
  rw [List.find?_cons]
  by_cases h : y = k <;> simp [h]
theorem mem_cnt : ∀ {c : List (Tx × Int)}, (keysF c).Nodup → ∀ k n, (k, n) ∈ c ↔ k ∈ keysF c ∧ n = cntIn c k
  | [], _, k, n => by simp [keysF]
  | (y, m) :: r, h, k, n => by
    have h' : y ∉ keysF r ∧ (keysF r).Nodup := List.nodup_cons.1 h
    have ih := mem_cnt h'.2 k n
    rw [cntIn_cons, List.mem_cons, ih, show keysF ((y, m) :: r) = y :: keysF r from rfl, List.mem_cons]
    by_cases e : y = k
    · subst e
      rw [if_pos rfl]
      constructor
      · rintro (h1 | ⟨h1, _⟩)
        · injection h1 with _ h1; exact ⟨Or.inl rfl, h1⟩
        · exact absurd h1 h'.1
      · rintro ⟨_, rfl⟩; exact Or.inl rfl
    · rw [if_neg e]
      constructor
      · rintro (h1 | ⟨h1, h2⟩)
        · injection h1 with h1 _; exact absurd h1.symm e
        · exact ⟨Or.inr h1, h2⟩
      · rintro ⟨h1 | h1, h2⟩
        · exact absurd h1.symm e
        · exact Or.inr ⟨h1, h2⟩
theorem nodup_of_keys {c : List (Tx × Int)} (h : (keysF c).Nodup) : c.Nodup := by
  unfold keysF List.Nodup at *
  exact (List.pairwise_map.1 h).imp (fun {a b} hne e => hne (by rw [e]))
theorem acc_perm {acc c : List (Tx × Int)} (hn : (keysF acc).Nodup) (hc : (keysF c).Nodup) (h1 : ∀ p ∈ acc, p.2 = cntIn c p.1 ∧ p.1 ∈ keysF c) (h2 : ∀ k ∈ keysF c, k ∈ keysF acc) : acc.Perm c := by
  refine (List.perm_ext_iff_of_nodup (nodup_of_keys hn) (nodup_of_keys hc)).2 ?_
  rintro ⟨k, n⟩
  constructor
  · intro h
    have := h1 _ h
    exact (mem_cnt hc k n).2 ⟨this.2, this.1⟩
  · intro h
    have h3 := (mem_cnt hc k n).1 h
    have h4 := h2 k h3.1
    obtain ⟨⟨k', m⟩, hm, e⟩ := List.mem_map.1 h4
    dsimp only at e
    subst e
    have h5 := h1 _ hm
    dsimp only at h5
    rw [h3.2, ← h5.1]
    exact hm
theorem cnt_bdT (xs : List Tx) : ∀ p ∈ cntF xs, 1 ≤ p.2 ∧ p.2 ≤ xs.length := by
  rintro ⟨k, n⟩ h
  have h1 := (mem_cnt (keys_nodup xs) k n).1 h
  have h2 := (cntIn_le xs k).2
  refine ⟨?_, by dsimp only; omega⟩
  have hk := (mem_keys_cnt xs k).1 h1.1
  have : ∀ xs : List Tx, k ∈ xs → 1 ≤ cntIn (cntF xs) k := by
    intro xs
    refine snoc_ind (P := fun xs => k ∈ xs → 1 ≤ cntIn (cntF xs) k) (fun h => by cases h) (fun l c ih hm => ?_) xs
    rw [cntF_snoc, bump_cnt]
    have h0 := (cntIn_le l k).1
    rw [List.mem_append, List.mem_singleton] at hm
    rcases hm with hm | hm
    · have := ih hm; split <;> omega
    · rw [if_pos hm]; omega
  have := this xs hk
  dsimp only
  omega
def sumC (c : List (Tx × Int)) : Nat := (c.map fun p => p.2.toNat).sum
theorem sumC_cons (p : Tx × Int) (c : List (Tx × Int)) : sumC (p :: c) = p.2.toNat + sumC c := by unfold sumC; simp
theorem sumC_append (a b : List (Tx × Int)) : sumC (a ++ b) = sumC a + sumC b := by unfold sumC; simp
theorem sumC_bump : ∀ (c : List (Tx × Int)) (x : Tx), (∀ p ∈ c, 0 ≤ p.2) → sumC (bump c x) = sumC c + 1
  | [], x, _ => rfl
  | (y, n) :: r, x, h => by
    have hn : 0 ≤ n := h (y, n) (List.mem_cons_self ..)
    unfold bump
    by_cases e : y = x
    · rw [if_pos e, sumC_cons, sumC_cons]; dsimp only; omega
    · rw [if_neg e, sumC_cons, sumC_cons, sumC_bump r x (fun p hp => h p (List.mem_cons_of_mem _ hp))]; omega
theorem sumC_cnt (xs : List Tx) : sumC (cntF xs) = xs.length := by
  refine snoc_ind (P := fun xs => sumC (cntF xs) = xs.length) rfl (fun l c ih => ?_) xs
  rw [cntF_snoc, sumC_bump _ _ (fun p hp => by have := cnt_bdT l p hp; omega), ih, List.length_append, List.length_singleton]
theorem sumC_perm {a b : List (Tx × Int)} (h : a.Perm b) : sumC a = sumC b := List.Perm.sum_nat (h.map _)
end Go.Proofs.YtfgaiopkclogmaaGreatDoor
