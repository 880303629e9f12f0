/- LedgerSums in plain Lean: entries of one class, sums of classes, sums of what stands first. -/
import Derived.Test.YtfgaiopkclogmaaGreatDoorMg
import Derived.Test.YtfgaiopkclogmaaGreatDoorLedgDeJ
namespace Go.Proofs.YtfgaiopkclogmaaGreatDoor
open Go Go.RowKit Go.WideShapes Go.WideAt

def capE (e : En) : En := if 1099511627776 < e.byts then ⟨e.name, e.meth, e.tgt, e.conn, e.numb, e.tick, e.stat, 1099511627776⟩ else e
theorem capE_in {e : En} (h : inE e) : inE (capE e) := by
  unfold capE
  split
  · exact ⟨⟨h.ints.1, h.ints.2.1, h.ints.2.2.1, h.ints.2.2.2.1, ⟨by dsimp only; omega, by dsimp only; omega⟩⟩, h.n1, h.n2, h.n3⟩
  · exact h
theorem capE_byts (e : En) : (capE e).byts ≤ 1099511627776 := by
  unfold capE
  split
  · exact Int.le_refl _
  · omega
theorem accL_all {P : En → Prop} {xs : List En} (h : ∀ e ∈ xs, P e) : ∀ x ∈ accL xs, P x := by
  revert h
  refine snoc_ind (P := fun xs => (∀ e ∈ xs, P e) → ∀ x ∈ accL xs, P x) (fun _ x hx => by cases hx) (fun l c ih h => ?_) xs
  rw [accL_snoc]
  unfold addL
  have ih' := ih (fun e he => h e (by simp [he]))
  split
  · intro x hx
    rw [List.mem_append, List.mem_singleton] at hx
    rcases hx with hx | rfl
    · exact ih' x hx
    · exact h x (by simp)
  · exact ih'
def clsF (c : Int) (l : List En) : List En := l.filter fun e => decide (e.stat / 100 = c)
def filC (c : Nat) : Fi := ⟨[], [], [], 100 * ((c : Int) + 1), 100 * ((c : Int) + 1) + 99⟩
theorem filC_want (c : Nat) (e : En) : wantB e (filC c) = decide (e.stat / 100 = (c : Int) + 1) := by
  unfold wantB namedB underB statB filC
  rw [Bool.eq_iff_iff]
  simp
  omega
theorem filterC (c : Nat) (l : List En) : (l.filter fun e => wantB e (filC c)) = clsF ((c : Int) + 1) l := by
  unfold clsF
  congr 1
  funext e
  exact filC_want c e
theorem clsL_clsF (c : Int) (l : List En) : clsL c (clsF c l) = clsL c l := by
  unfold clsL clsF
  rw [List.filter_filter]
  simp
theorem clsF_len (c : Int) (l : List En) : ((clsF c l).length : Int) = clsL c l := rfl
theorem clsF_mem {c : Int} {l : List En} {e : En} (h : e ∈ clsF c l) : e ∈ l := (List.mem_filter.1 h).1
def sumE (l : List En) : Nat → Int
  | 0 => 0
  | c + 1 => sumE l c + clsL ((c : Int) + 1) l
def sumB (l : List En) : Nat → Int
  | 0 => 0
  | c + 1 => sumB l c + bytesL (clsF ((c : Int) + 1) l)
def bytesP (l : List En) : Int := l.foldl (fun b e => b + e.byts) 0
theorem bytesP_snoc (l : List En) (e : En) : bytesP (l ++ [e]) = bytesP l + e.byts := by unfold bytesP; rw [List.foldl_append]; rfl
/-- entries whose classes and bytes are bounded -/
def tameE (e : En) : Prop := (100 ≤ e.stat ∧ e.stat ≤ 599) ∧ 0 ≤ e.byts ∧ e.byts ≤ 1099511627776
theorem bytesL_plain (l : List En) (h : ∀ e ∈ l, tameE e) (hl : l.length ≤ 200000) : bytesL l = bytesP l ∧ 0 ≤ bytesP l ∧ bytesP l ≤ 1099511627776 * (l.length : Int) := by
  revert h hl
  refine snoc_ind (P := fun l => (∀ e ∈ l, tameE e) → l.length ≤ 200000 → bytesL l = bytesP l ∧ 0 ≤ bytesP l ∧ bytesP l ≤ 1099511627776 * (l.length : Int)) (fun _ _ => by simp [bytesL, bytesP]) (fun l c ih h hl => ?_) l
  rw [List.length_append, List.length_singleton] at hl
  obtain ⟨h1, h2, h3⟩ := ih (fun e he => h e (by simp [he])) (by omega)
  have hc := h c (by simp)
  obtain ⟨_, hc1, hc2⟩ := hc
  rw [bytesL_snoc, bytesP_snoc, List.length_append, List.length_singleton, h1]
  have : ((l.length + 1 : Nat) : Int) = (l.length : Int) + 1 := by omega
  rw [this]
  rw [if_neg (by omega)]
  omega
theorem clsF_snoc (c : Int) (l : List En) (e : En) : clsF c (l ++ [e]) = if e.stat / 100 = c then clsF c l ++ [e] else clsF c l := by
  unfold clsF
  rw [List.filter_append]
  by_cases h : e.stat / 100 = c <;> simp [h]
theorem bytesP_cls (c : Int) (l : List En) (e : En) : bytesP (clsF c (l ++ [e])) = bytesP (clsF c l) + if e.stat / 100 = c then e.byts else 0 := by
  rw [clsF_snoc]
  split
  · rw [bytesP_snoc]
  · omega
theorem clsF_le (c : Int) (l : List En) : (clsF c l).length ≤ l.length := List.length_filter_le _ _
theorem sumE_all (l : List En) (h : ∀ e ∈ l, tameE e) : sumE l 5 = l.length := by
  revert h
  refine snoc_ind (P := fun l => (∀ e ∈ l, tameE e) → sumE l 5 = l.length) (fun _ => by simp [sumE, clsL]) (fun l c ih h => ?_) l
  have h1 := ih (fun e he => h e (by simp [he]))
  have hc := (h c (by simp)).1
  simp only [sumE] at h1 ⊢
  rw [clsL_snoc, clsL_snoc, clsL_snoc, clsL_snoc, clsL_snoc, List.length_append, List.length_singleton]
  have h5 : c.stat / 100 = 1 ∨ c.stat / 100 = 2 ∨ c.stat / 100 = 3 ∨ c.stat / 100 = 4 ∨ c.stat / 100 = 5 := by omega
  rcases h5 with h5 | h5 | h5 | h5 | h5 <;> rw [h5] <;> simp at h1 ⊢ <;> omega
theorem sumB_all (l : List En) (h : ∀ e ∈ l, tameE e) (hl : l.length ≤ 200000) : sumB l 5 = bytesL l := by
  have hb : ∀ c, bytesL (clsF c l) = bytesP (clsF c l) := fun c => (bytesL_plain _ (fun e he => h e (clsF_mem he)) (Nat.le_trans (clsF_le c l) hl)).1
  rw [(bytesL_plain l h hl).1]
  simp only [sumB, hb]
  clear hb hl
  revert h
  refine snoc_ind (P := fun l => (∀ e ∈ l, tameE e) → 0 + bytesP (clsF ((0 : Nat) + 1) l) + bytesP (clsF ((1 : Nat) + 1) l) + bytesP (clsF ((2 : Nat) + 1) l) + bytesP (clsF ((3 : Nat) + 1) l) + bytesP (clsF ((4 : Nat) + 1) l) = bytesP l) (fun _ => by simp [clsF, bytesP]) (fun l c ih h => ?_) l
  have h1 := ih (fun e he => h e (by simp [he]))
  have hc := (h c (by simp)).1
  rw [bytesP_cls, bytesP_cls, bytesP_cls, bytesP_cls, bytesP_cls, bytesP_snoc]
  have h5 : c.stat / 100 = 1 ∨ c.stat / 100 = 2 ∨ c.stat / 100 = 3 ∨ c.stat / 100 = 4 ∨ c.stat / 100 = 5 := by omega
  rcases h5 with h5 | h5 | h5 | h5 | h5 <;> rw [h5] <;> simp at h1 ⊢ <;> omega
theorem sumE_bd (l : List En) : ∀ c : Nat, 0 ≤ sumE l c ∧ sumE l c ≤ (c : Int) * (l.length : Int)
  | 0 => by simp [sumE]
  | c + 1 => by
    have h1 := sumE_bd l c
    have h2 := clsL_le ((c : Int) + 1) l
    simp only [sumE]
    rw [show ((c + 1 : Nat) : Int) * (l.length : Int) = (c : Int) * (l.length : Int) + (l.length : Int) by rw [Int.natCast_add, Int.add_mul]; simp]
    omega
theorem clsB_bd (l : List En) (h : ∀ e ∈ l, tameE e) (hl : l.length ≤ 200000) (c : Int) : 0 ≤ bytesL (clsF c l) ∧ bytesL (clsF c l) ≤ 219902325555200000 := by
  have h1 := bytesL_plain _ (fun e he => h e (clsF_mem (c := c) he)) (Nat.le_trans (clsF_le c l) hl)
  have h2 := clsF_le c l
  rw [h1.1]
  omega
theorem sumB_bd (l : List En) (h : ∀ e ∈ l, tameE e) (hl : l.length ≤ 200000) : ∀ c : Nat, 0 ≤ sumB l c ∧ sumB l c ≤ (c : Int) * 219902325555200000
  | 0 => by simp [sumB]
  | c + 1 => by
    have h1 := sumB_bd l h hl c
    have h2 := clsB_bd l h hl ((c : Int) + 1)
    simp only [sumB]
    omega

/-- what stands first, one behind the other -/
theorem srt_strict (xs : List Tx) : (srtT (cntF xs)).Pairwise (fun a b => befT a b = true) := by
  have h1 := srtT_sorted (cntF xs)
  have h2 : (srtT (cntF xs)).Nodup := (srtT_perm _).nodup_iff.2 (nodup_of_keys (keys_nodup xs))
  refine (h1.and h2).imp (fun {a b} ⟨h3, h4⟩ => ?_)
  rcases befT_total a b h4 with h | h
  · exact h
  · rw [h3] at h; cases h
theorem top_next (xs : List Tx) (n k : Nat) (h : k + 1 < ((srtT (cntF xs)).take n).length) : befT ((srtT (cntF xs)).take n)[k] ((srtT (cntF xs)).take n)[k + 1] = true :=
  List.pairwise_iff_getElem.1 ((srt_strict xs).sublist (List.take_sublist _ _)) k (k + 1) (by omega) h (by omega)
theorem top_one (xs : List Tx) (n k : Nat) (h : k < ((srtT (cntF xs)).take n).length) : 1 ≤ ((srtT (cntF xs)).take n)[k].2 ∧ ((srtT (cntF xs)).take n)[k].2 ≤ xs.length := by
  have hm : ((srtT (cntF xs)).take n)[k] ∈ cntF xs := (srtT_perm _).mem_iff.1 (List.mem_of_mem_take (List.getElem_mem h))
  exact cnt_bdT xs _ hm
theorem sum_take_le (c : List (Tx × Int)) (n : Nat) : sumC (c.take n) ≤ sumC c := by
  have h : sumC c = sumC (c.take n) + sumC (c.drop n) := by rw [← sumC_append, List.take_append_drop]
  omega
theorem sum_srt (xs : List Tx) : sumC (srtT (cntF xs)) = xs.length := by rw [sumC_perm (srtT_perm _), sumC_cnt]
theorem sum_next (c : List (Tx × Int)) (k : Nat) (h : k < c.length) : sumC (c.take (k + 1)) = sumC (c.take k) + c[k].2.toNat := by
  rw [List.take_succ_eq_append_getElem h, sumC_append, sumC_cons]
  simp [sumC]
end Go.Proofs.YtfgaiopkclogmaaGreatDoor
