/- Contracts of octet: classes of bytes, fields, decimal numbers (program and reference). The lines of a ledger in plain Lean: the reader's steps, as functions on a place and on whether it went wrong. Small laws for slices that a call makes itself: one element appended; a row of bytes read as a string. Contract of the document's Digits: a number's decimal numeral. Plain laws of numbers written in digits, and the first number whose mark a body has not. The lines of a ledger in plain Lean: what was read is what stands there. Contracts: is a text a boundary (program and document). The lines of a ledger in plain Lean: what a line says; a line that says an entry is that entry's line. The lines of a ledger in plain Lean: a right entry's line says that entry. -/
import Derived.Test.YtfgaiopkclogmaaGreatDoorMa
import Derived.Test.YtfgaiopkclogmaaGreatDoorShelf
import Derived.Lib.ItoaLen
import Derived.Lib.ItoaMem
import Derived.BigQuiet
import Derived.Lib.IndexMore
namespace Go.Proofs.YtfgaiopkclogmaaGreatDoor
open Go Go.RowKit
set_option maxHeartbeats 1000000

def isDig (c : UInt8) : Bool := decide (48 ≤ c.toNat ∧ c.toNat ≤ 57)
theorem isdigit_any (c : UInt8) (w : World) : Calls Tryz.prog 41 #[.int .u8 c.toNat] w fun e w' => e = .returned (.bool (isDig c)) ∧ w = w' := by
  obtain ⟨R, hR⟩ := name_it (isDig c)
  rw [hR.out]
  go_enter Tryz.func41, Tryz.ntmps41
  go_wp2
  all_goals go_ret
  all_goals exact ⟨ret_bool (by rw [← hR.out, Bool.eq_iff_iff]; simp [isDig]; omega), rfl⟩

def isFld (c : UInt8) : Bool := decide (c.toNat = 9 ∨ (32 ≤ c.toNat ∧ c.toNat ≠ 127))
theorem isfldbyte_any (c : UInt8) (w : World) : Calls Tryz.prog 119 #[.int .u8 c.toNat] w fun e w' => e = .returned (.bool (isFld c)) ∧ w = w' := by
  obtain ⟨R, hR⟩ := name_it (isFld c)
  rw [hR.out]
  go_enter Tryz.func119, Tryz.ntmps119
  go_wp2
  all_goals go_ret
  all_goals exact ⟨ret_bool (by rw [← hR.out, Bool.eq_iff_iff]; (try simp only [] at *); simp [isFld]; omega), rfl⟩
theorem isbyte_any (c : UInt8) (w : World) : Calls Tryz.prog 129 #[.int .u8 c.toNat] w fun e w' => e = .returned (.bool (isFld c)) ∧ w = w' := by
  obtain ⟨R, hR⟩ := name_it (isFld c)
  rw [hR.out]
  go_enter Tryz.func129, Tryz.ntmps129
  go_wp2
  all_goals go_ret
  all_goals exact ⟨ret_bool (by rw [← hR.out, Bool.eq_iff_iff]; (try simp only [] at *); simp [isFld]; omega), rfl⟩

theorem risfield_any (s : ByteArray) (w : World) (hs : s.size ≤ maxLen) : Calls Tryz.prog 110 #[.string s] w fun e w' => e = .returned (.bool ((L s).all isFld)) ∧ w = w' := by
  unfold maxLen at hs
  obtain ⟨R, hR⟩ := name_it ((L s).all isFld)
  rw [hR.out]
  go_enter Tryz.func110, Tryz.ntmps110
  go_wp2_with fail
  go_loop [3] (fun i => ∃ k : Nat, k ≤ s.size ∧ i = .int .i64 k ∧ Hid (((L s).drop k).all isFld = R)) (fun i => s.size - (intOf i).toNat)
  case atStart => exact ⟨0, Nat.zero_le _, rfl, hR⟩
  case round =>
    obtain ⟨k, hk, rfl, hr⟩ := hrel
    by_cases hlt : k < s.size
    · cases hb : isFld s[k]
      all_goals
        have hr2 := hr.out
        rw [L_drop hlt, List.all_cons, hb] at hr2
        have HR := Lib.hid hr2; clear hr2 hr
        go_wp2_with (go_at_call 129; refine (isbyte_any _ _).mono ?_; rintro e w' ⟨rfl, rfl⟩)
      · go_ret
        exact ⟨ret_bool (by rw [← HR.out]; rfl), rfl⟩
      · go_round
        case rel => exact ⟨k + 1, by omega, by go_num, Lib.hid (by have h := HR.out; simpa using h)⟩
        case measure => simp [intOf]; omega
    · obtain rfl : k = s.size := by omega
      rw [L_drop_all] at hr
      go_wp2_with fail
      go_ret
      exact ⟨ret_bool (by rw [← hr.out]; rfl), rfl⟩

theorem isfield_any (s : ByteArray) (w : World) (hs : s.size ≤ maxLen) : Calls Tryz.prog 92 #[.string s] w fun e w' => e = .returned (.bool ((L s).all isFld)) ∧ w = w' := by
  have s1 : (0 : Int) ≤ 1 := by omega
  have s2 : (0 : Int) ≤ 2 := by omega
  have s3 : (0 : Int) ≤ 3 := by omega
  unfold maxLen at hs
  obtain ⟨R, hR⟩ := name_it ((L s).all isFld)
  rw [hR.out]
  go_enter Tryz.func92, Tryz.ntmps92
  go_wp2_with fail
  go_loop [3, 6] (fun _ i => ∃ k : Nat, k ≤ s.size ∧ i = .int .i64 k ∧ Hid (((L s).drop k).all isFld = R)) (fun _ i => s.size - (intOf i).toNat)
  case atStart => exact ⟨0, Nat.zero_le _, rfl, hR⟩
  case round =>
    obtain ⟨k, hk, rfl, hr⟩ := hrel
    by_cases hlt : k < s.size
    · cases hb : isFld s[k]
      all_goals
        have hr2 := hr.out
        rw [L_drop hlt, List.all_cons, hb] at hr2
        have HR := Lib.hid hr2; clear hr2 hr
        go_wp2_with (go_at_call 119; refine (isfldbyte_any _ _).mono ?_; rintro e w' ⟨rfl, rfl⟩)
      · go_ret
        exact ⟨ret_bool (by rw [← HR.out]; rfl), rfl⟩
      · go_round
        case rel => exact ⟨k + 1, by omega, by go_num, Lib.hid (by have h := HR.out; simpa using h)⟩
        case measure => simp [intOf]; omega
    · obtain rfl : k = s.size := by omega
      rw [L_drop_all] at hr
      go_wp2_with fail
      go_ret
      exact ⟨ret_bool (by rw [← hr.out]; rfl), rfl⟩

/-! Decimal numbers. -/
def dg (c : UInt8) : Int := (c.toNat : Int) - 48
def valOf (l : List UInt8) : Int := l.foldl (fun n c => 10 * n + dg c) 0
theorem valOf_nil : valOf [] = 0 := rfl
theorem valOf_snoc (l : List UInt8) (c : UInt8) : valOf (l ++ [c]) = 10 * valOf l + dg c := by simp [valOf]
theorem dg_bd {c : UInt8} (h : isDig c = true) : 0 ≤ dg c ∧ dg c ≤ 9 := by simp [isDig] at h; unfold dg; omega
theorem valOf_nonneg : ∀ (l : List UInt8), l.all isDig = true → 0 ≤ valOf l := by
  intro l
  refine snoc_ind (P := fun l => l.all isDig = true → 0 ≤ valOf l) ?_ ?_ l
  · intro _; simp [valOf]
  · intro l c ih h
    simp only [List.all_append, Bool.and_eq_true, List.all_cons, List.all_nil, Bool.and_true] at h
    rw [valOf_snoc]
    have := ih h.1
    have := dg_bd h.2
    omega
theorem valOf_take (l : List UInt8) (h : l.all isDig = true) : ∀ k, valOf (l.take k) ≤ valOf l := by
  revert h
  refine snoc_ind (P := fun l => l.all isDig = true → ∀ k, valOf (l.take k) ≤ valOf l) ?_ ?_ l
  · intro _ k; simp
  · intro l c ih h k
    simp only [List.all_append, Bool.and_eq_true, List.all_cons, List.all_nil, Bool.and_true] at h
    by_cases hk : k ≤ l.length
    · rw [List.take_append_of_le_length hk, valOf_snoc]
      have := ih h.1 k
      have := valOf_nonneg l h.1
      have := dg_bd h.2
      omega
    · rw [List.take_of_length_le (by simp; omega)]; exact Int.le_refl _
def decE (l : List UInt8) (most : Int) : Int := if l = [] ∨ l.all isDig = false then 11 else if valOf l ≤ most then 0 else 12
def decN (l : List UInt8) (most : Int) : Int := if decE l most = 0 then valOf l else 0

def hexDigits : ByteArray := ⟨#[48, 49, 50, 51, 52, 53, 54, 55, 56, 57, 97, 98, 99, 100, 101, 102]⟩
theorem one_size (x : UInt8) : 0 < (bs [x]).size := by rw [size_bs]; simp
theorem one_get (x : UInt8) (h : 0 < (bs [x]).size) : (bs [x])[0] = x := rfl
end Go.Proofs.YtfgaiopkclogmaaGreatDoor
namespace Go.Proofs.YtfgaiopkclogmaaGreatDoor
open Go Go.RowKit

/-- a place in a text, and whether reading went wrong there -/
abbrev St := Nat × Bool
def litS (S : List UInt8) : List UInt8 → St → St
  | [], st => st
  | c :: t, st => if st.2 = true then st else if S[st.1]? = some c then litS S t (st.1 + 1, false) else (st.1, true)
theorem litS_bad (S : List UInt8) (t : List UInt8) (n : Nat) : litS S t (n, true) = (n, true) := by
  cases t with
  | nil => rfl
  | cons c t => rw [litS, if_pos rfl]
theorem litS_le (S : List UInt8) : ∀ (t : List UInt8) (st : St), st.1 ≤ S.length → st.1 ≤ (litS S t st).1 ∧ (litS S t st).1 ≤ S.length
  | [], st, h => ⟨Nat.le_refl _, h⟩
  | c :: t, st, h => by
    rw [litS]
    split
    · exact ⟨Nat.le_refl _, h⟩
    · split
      · rename_i hc
        have hlt : st.1 < S.length := (List.getElem?_eq_some_iff.1 hc).1
        have := litS_le S t (st.1 + 1, false) (by show st.1 + 1 ≤ _; omega)
        exact ⟨by have := this.1; simp only at this; omega, this.2⟩
      · exact ⟨Nat.le_refl _, h⟩
/-- how many bytes of a kind stand at the front, at most so many -/
def runK (may : UInt8 → Bool) : Nat → List UInt8 → Nat
  | 0, _ => 0
  | _ + 1, [] => 0
  | m + 1, c :: r => if may c = true then runK may m r + 1 else 0
theorem runK_le (may : UInt8 → Bool) : ∀ (m : Nat) (l : List UInt8), runK may m l ≤ m ∧ runK may m l ≤ l.length
  | 0, _ => ⟨Nat.le_refl _, Nat.zero_le _⟩
  | _ + 1, [] => ⟨Nat.zero_le _, Nat.le_refl _⟩
  | m + 1, c :: r => by
    rw [runK]
    have := runK_le may m r
    split
    · rw [List.length_cons]; omega
    · omega
def runS (S : List UInt8) (may : UInt8 → Bool) (m : Nat) (st : St) : St :=
  if st.2 = true then st else (st.1 + runK may m (S.drop st.1), decide (runK may m (S.drop st.1) = 0))
def mostI : Int := 9223372036854775807
/-- the digits at the front: what they say, how many were read, whether it went wrong -/
def numK : List UInt8 → Int → Nat → Int × Nat × Bool
  | [], v, k => (v, k, decide (k = 0))
  | c :: r, v, k =>
    if isDig c = true then
      if (0 < k ∧ v = 0) ∨ (mostI - dg c) / 10 < v then (0, k, true) else numK r (10 * v + dg c) (k + 1)
    else (v, k, decide (k = 0))
def numS (S : List UInt8) (st : St) : Int × St :=
  if st.2 = true then (0, st) else ((numK (S.drop st.1) 0 0).1, (st.1 + (numK (S.drop st.1) 0 0).2.1, (numK (S.drop st.1) 0 0).2.2))
def tgtB (c : UInt8) : Bool := decide (33 ≤ c.toNat ∧ c.toNat ≤ 126)
/-- the bytes of a quoted target: what they say, how many were read, whether it went wrong -/
def tgtK : List UInt8 → List UInt8 → Nat → List UInt8 × Nat × Bool
  | [], out, k => (out, k, false)
  | c :: r, out, k =>
    if c = 34 then (out, k, false)
    else if tgtB c = false ∨ out.length = 65536 then (out, k, true)
    else if c = 92 then
      match r with
      | [] => (out, k + 1, true)
      | d :: r' => if d ≠ 34 ∧ d ≠ 92 then (out, k + 1, true) else tgtK r' (out ++ [d]) (k + 2)
    else tgtK r (out ++ [c]) (k + 1)
def tgtS (S : List UInt8) (st : St) : List UInt8 × St :=
  let a := litS S [34] st
  if a.2 = true then ([], a)
  else
    let q := tgtK (S.drop a.1) [] 0
    (q.1, litS S [34] (a.1 + q.2.1, q.2.2 || decide (q.1 = [])))
/-- three digits, the first from 1 to 5 -/
def stK : Nat → List UInt8 → Int → Nat → Int × Nat × Bool
  | 0, _, v, k => (v, k, false)
  | _ + 1, [], _, k => (0, k, true)
  | m + 1, c :: r, v, k => if isDig c = false ∨ (k = 0 ∧ ¬ (49 ≤ c.toNat ∧ c.toNat ≤ 53)) then (0, k, true) else stK m r (10 * v + dg c) (k + 1)
def stS (S : List UInt8) (st : St) : Int × St :=
  if st.2 = true then (0, st) else ((stK 3 (S.drop st.1) 0 0).1, (st.1 + (stK 3 (S.drop st.1) 0 0).2.1, (stK 3 (S.drop st.1) 0 0).2.2))
theorem numK_le : ∀ (r : List UInt8) (v : Int) (k : Nat), k ≤ (numK r v k).2.1 ∧ (numK r v k).2.1 ≤ k + r.length
  | [], v, k => ⟨Nat.le_refl _, Nat.le_refl _⟩
  | c :: r, v, k => by
    rw [numK]
    have ih := numK_le r (10 * v + dg c) (k + 1)
    rw [List.length_cons]
    split
    · split
      · exact ⟨Nat.le_refl _, Nat.le_add_right _ _⟩
      · omega
    · exact ⟨Nat.le_refl _, Nat.le_add_right _ _⟩
theorem numK_ok : ∀ (r : List UInt8) (v : Int) (k : Nat) (x : Int) (m : Nat), numK r v k = (x, m, false) → 0 ≤ v → v ≤ mostI →
    ∃ d, r = d ++ r.drop d.length ∧ d.all isDig = true ∧ m = k + d.length ∧ x = d.foldl (fun n c => 10 * n + dg c) v ∧ 0 ≤ x ∧ x ≤ mostI ∧ 0 < m ∧ (0 < k → v = 0 → d = []) ∧ (k = 0 → v = 0 → d.length ≤ 1 ∨ d.head? ≠ some 48)
  | [], v, k, x, m, h, h0, h1 => by
    rw [numK] at h
    injection h with hx h
    injection h with hm hb
    have hk := of_decide_eq_false hb
    exact ⟨[], rfl, rfl, hm.symm, hx.symm, by omega, by omega, by omega, fun _ _ => rfl, fun _ _ => Or.inl (Nat.zero_le _)⟩
  | c :: r, v, k, x, m, h, h0, h1 => by
    rw [numK] at h
    split at h
    · rename_i hd
      have hb := dg_bd hd
      split at h
      · injection h with _ h; injection h with _ h; cases h
      · rename_i hno
        have hle : ¬ (mostI - dg c) / 10 < v := fun h => hno (Or.inr h)
        have hz : ¬ (0 < k ∧ v = 0) := fun h => hno (Or.inl h)
        obtain ⟨d, e1, e2, e3, e4, e5, e6, e7, e8, e9⟩ := numK_ok r (10 * v + dg c) (k + 1) x m h (by omega) (by unfold mostI at hle ⊢; omega)
        refine ⟨c :: d, ?_, ?_, ?_, ?_, e5, e6, e7, ?_, ?_⟩
        · rw [List.length_cons, List.drop_succ_cons, List.cons_append, ← e1]
        · rw [List.all_cons, hd, e2]; rfl
        · rw [List.length_cons]; omega
        · rw [List.foldl_cons]; exact e4
        · intro hk hv; exact absurd ⟨hk, hv⟩ hz
        · intro hk hv
          by_cases hc : dg c = 0
          · left
            rw [e8 (by omega) (by omega)]
            exact Nat.le_refl _
          · right
            rw [List.head?_cons]
            intro e
            injection e with e
            subst e
            exact hc rfl
    · injection h with hx h
      injection h with hm hb
      have hk := of_decide_eq_false hb
      exact ⟨[], rfl, rfl, hm.symm, hx.symm, by omega, by omega, by omega, fun _ _ => rfl, fun _ _ => Or.inl (Nat.zero_le _)⟩
end Go.Proofs.YtfgaiopkclogmaaGreatDoor
namespace Go.Proofs.YtfgaiopkclogmaaGreatDoor
open Go Go.RowKit

theorem own_below {w w' : World} {base : Nat} {v : Value} {e : TypeId} {size n : Nat} {xs : List Value} (hown : w.ownsRow base e size v n xs) (hg : w.grownBy w' v.ownBlock) (hbase : base ≤ w.heap.size) : Below base w w' :=
  (Below.refl base w).grown hg hbase (fun k hk => (hown.lt k hk).1)

/-- 'append(v, x)', x of one cell, v of the call's own; the translation lays x in a block of its own ahead. -/
theorem append1 {P : Program} {w : World} {ops : Array Oper} {rest : List Oper} {o : Oper} {a : Act} {Q : Exit → Act → World → Prop} (hgd : o.guard = none) (s x : Operand) (t : TypeId)
    (ho : o.op = .call { callee := .builtin .append, args := #[s, x], argTypes := #[t, t] })
    (base : Nat) (e : TypeId) (i : TypeInfo) (z : Value) (bytes : Nat) (ht : P.underlying t = some (.slice e)) (hi : P.info? e = some i) (hz : i.zero = some z)
    (hsize : i.size = 1) (hby : i.bytes = bytes) (hzs : z.cells.size = 1)
    {v : Value} {n : Nat} {xs : List Value} (hown : w.ownsRow base e 1 v n xs) (hs : a.eval s = v)
    (u : Value) (hu : u.oneCell' = true) (hx : a.eval x = .slice (some ⟨w.heap.size, 0, none⟩) 1 1)
    (hn : n + 1 ≤ maxLen) (hbytes : (n + 1) * bytes ≤ 140737488355328) (hbase : base ≤ w.heap.size)
    (h : ∀ g cap w', base ≤ g → w'.ownsRow base e 1 (.slice (some ⟨g, 0, none⟩) (n + 1) cap) (n + 1) (xs ++ [u]) → Below base w w' → wpList P ops Q rest (a.put o.dst (.slice (some ⟨g, 0, none⟩) (n + 1) cap)) w') :
    wpList P ops Q (o :: rest) a (w.alloc (.cells #[u] e)) := by
  have hw : base ≤ (w.alloc (.cells #[u] e)).heap.size := by
    show base ≤ (w.heap.push _).size
    rw [Array.size_push]; omega
  refine wpList_append_own (w.alloc (.cells #[u] e)) hgd s x t ho base e i z 1 bytes ht hi hz hsize hby hzs (by decide) v n xs hs (hown.alloc _) ⟨w.heap.size, 0, none⟩ 1 1 [u] hx rfl ?_ ?_ hn hbytes hw ?_
  · intro j y hj
    match j, hj with
    | 0, hj =>
      simp at hj; subst hj
      rw [Addr.add_lit]
      exact World.cell?_alloc_mark w #[u] e (0, 0) 0
  · intro y hy; simp at hy; subst hy; exact hu
  · intro v' w' hown' hgrow _
    rcases hown'.2 with ⟨_, h0⟩ | ⟨g, cap, cur, rfl, hg, _⟩
    · omega
    · exact h g cap w' hg hown' (((Below.refl _ _).alloc hbase _).trans (own_below (hown.alloc _) hgrow hw))

/-- '[]T{}' : the empty row that the translation lays. -/
theorem own_empty (w : World) (base : Nat) (e : TypeId) (hb : base ≤ w.heap.size) : (w.alloc (.cells #[] e)).ownsRow base e 1 (.slice (some ⟨w.heap.size, 0, none⟩) 0 0) 0 [] :=
  World.ownsRow_lit w #[] 0 hb (by unfold maxLen; omega) rfl

/-- string(v), v a row of bytes of the call's own. -/
theorem own_string {P : Program} {w : World} (src dst e : TypeId) {base n : Nat} {v : Value} {l : List UInt8} (h : w.ownsRow base e 1 v n (l.map fun c => Value.int .u8 (c.toNat : Int))) (hs : P.underlying src = some (.slice e)) (he : P.underlying e = some (.int .u8)) (hd : P.underlying dst = some .string) :
    (convert src dst v).run P w = .ok (.string (bs l)) w := by
  have hlen : n = l.length := by have := h.1; simp at this; omega
  rcases h.2 with ⟨rfl, h0⟩ | ⟨g, cap, cur, rfl, _⟩
  · have : l = [] := List.eq_nil_of_length_eq_zero (by omega)
    subst this
    exact run_convert_bytes_nil w src e hs he 0 0 dst hd
  · subst hlen
    refine run_convert_bytes_back w src dst e ⟨g, 0, none⟩ cap l hs he hd fun j hj => ?_
    have : (⟨g, 0, none⟩ : Addr).add j = ⟨g, j, none⟩ := by rw [Addr.add_lit, Nat.zero_add]
    rw [this, h.cellAt j (by omega)]
    simp [hj]
end Go.Proofs.YtfgaiopkclogmaaGreatDoor
namespace Go.Proofs.YtfgaiopkclogmaaGreatDoor
open Go Go.RowKit
set_option maxHeartbeats 2000000

/-- the digits of a number's amount; none of 0 -/
def absD (n : Int) : List UInt8 := if n = 0 then [] else Lib.decDigits n.natAbs
def digC (n : Nat) : UInt8 := UInt8.ofNat (48 + n % 10)
theorem digC_toNat (n : Nat) : ((digC n).toNat : Int) = 48 + ((n % 10 : Nat) : Int) := by
  unfold digC
  rw [UInt8.toNat_ofNat']
  omega
theorem decDigits_step (u : Nat) : Lib.decDigits u = (if u / 10 = 0 then [] else Lib.decDigits (u / 10)) ++ [digC u] := by
  rw [Lib.decDigits]
  unfold digC
  by_cases h : u < 10
  · rw [dif_pos h, if_pos (by omega), Nat.mod_eq_of_lt h]; rfl
  · rw [dif_neg h, if_neg (by omega)]
theorem absD_step (n : Int) (h : n ≠ 0) : absD n = absD (n.tdiv 10) ++ [digC n.natAbs] := by
  have e : (n.tdiv 10).natAbs = n.natAbs / 10 := by rw [Int.natAbs_tdiv]; rfl
  unfold absD
  rw [if_neg h, decDigits_step, e]
  congr 1
  by_cases h0 : n.natAbs / 10 = 0
  · rw [if_pos h0, if_pos (by omega)]
  · rw [if_neg h0, if_neg (by omega)]
theorem itoa_abs (n : Int) (h : n ≠ 0) : Lib.itoa n = if n < 0 then 45 :: absD n else absD n := by
  unfold Lib.itoa absD
  by_cases h0 : n < 0
  · rw [if_pos h0, if_pos h0, if_neg h]
  · rw [if_neg h0, if_neg h0, if_neg h, show n.toNat = n.natAbs by omega]

set_option maxRecDepth 100000 in
theorem rdigits_any (N : Int) (w : World) (h0 : -9223372036854775808 ≤ N) (h1 : N ≤ 9223372036854775807) :
    Calls Tryz.prog 79 #[.int .i64 N] w fun e w' => e = .returned (.string (bs (Lib.itoa N))) ∧ Below w.heap.size w w' := by
  have hlen := Lib.itoa_length_le N h0 h1
  obtain ⟨R, hR⟩ := name_it (Lib.itoa N)
  rw [hR.out] at hlen ⊢
  by_cases hz : N = 0
  · subst hz
    have hr : Hid (R = [48]) := by rw [← hR.out]; unfold Hid Lib.itoa; rw [if_neg (by omega)]; exact Lib.decDigits_one (by decide)
    go_enter Tryz.func79, Tryz.ntmps79
    go_wp2_with fail
    all_goals (try (exfalso; omega))
    go_ret
    exact ⟨by rw [hr.out]; rfl, Below.refl _ _⟩
  · have hia := itoa_abs N hz
    rw [hR.out] at hia
    have hA := Lib.hid hia
    clear hia
    obtain ⟨D, hD⟩ := name_it (absD N)
    rw [hD.out] at hA
    have hDl : D.length ≤ 21 := by
      have := hA.out
      by_cases hn : N < 0
      · rw [if_pos hn] at this; rw [this] at hlen; simp at hlen; omega
      · rw [if_neg hn] at this; rw [this] at hlen; exact hlen
    go_enter Tryz.func79, Tryz.ntmps79
    go_wp2_with fail
    all_goals (try (exfalso; omega))
    go_loopw [0, 4] (fun n out wr => ∃ (m : Int) (o : List UInt8), n = .int .i64 m ∧ out = .string (bs o) ∧ (N < 0 → m ≤ 0) ∧ (0 ≤ N → 0 ≤ m) ∧ -9223372036854775808 ≤ m ∧ m ≤ 9223372036854775807 ∧ Hid (absD m ++ o = D) ∧ Below w.heap.size w wr) (fun n _ _ => (intOf n).natAbs)
    case atStart => exact ⟨N, [], rfl, rfl, by omega, by omega, by omega, by omega, by unfold Hid; rw [List.append_nil]; exact hD.out, Below.refl _ _⟩
    case round =>
      obtain ⟨m, o, rfl, rfl, hm1, hm2, hm3, hm4, hmo, hbr⟩ := hrel
      by_cases hm : m = 0
      · have ho : Hid (o = D) := by
          have := hmo.out; subst hm; exact this
        have hob : (bs o).size ≤ 21 := by rw [size_bs, ho.out]; exact hDl
        have hd0 : (decide (N < 0)) = true ∨ (decide (N < 0)) = false := by cases decide (N < 0) <;> simp
        subst hm
        rcases hd0 with hd | hd
        · have hn : N < 0 := of_decide_eq_true hd
          go_wp2_with fail
          all_goals (try (exfalso; omega))
          go_ret
          have := hA.out
          rw [if_pos hn] at this
          exact ⟨by rw [this, ho.out]; rfl, hbr⟩
        · have hn : ¬ N < 0 := of_decide_eq_false hd
          go_wp2_with fail
          all_goals (try (exfalso; omega))
          go_ret
          have := hA.out
          rw [if_neg (by omega)] at this
          exact ⟨by rw [this, ho.out]; rfl, hbr⟩
      · have hst := absD_step m hm
        obtain ⟨c, hc⟩ := name_it (digC m.natAbs)
        have hcn := digC_toNat m.natAbs
        rw [hc.out] at hcn hst
        obtain ⟨p, hp⟩ := name_it (m.tdiv 10)
        obtain ⟨r, hr⟩ := name_it (m.tmod 10)
        rw [hp.out] at hst
        have hmd := Int.tmod_add_mul_tdiv m 10
        rw [hp.out, hr.out] at hmd
        have hmo2 : Hid (absD p ++ (c :: o) = D) := by
          have := hmo.out
          rw [hst] at this
          rw [← this, List.append_assoc]; rfl
        have hol : (c :: o).length ≤ 21 := by
          have := congrArg List.length hmo2.out
          rw [List.length_append] at this; omega
        have hra : r.natAbs = m.natAbs % 10 := by rw [← hr.out, Int.natAbs_tmod]; rfl
        have hp' : m.tdiv 10 = p := hp.out
        have hr' : m.tmod 10 = r := hr.out
        have hsg : (0 ≤ m → 0 ≤ r) ∧ (m ≤ 0 → r ≤ 0) := by
          rw [← hr']
          exact ⟨fun h => Int.tmod_nonneg _ h, fun h => by
            have := Int.tmod_nonneg 10 (a := -m) (by omega)
            rw [Int.neg_tmod] at this; omega⟩
        have hob : (bs o).size ≤ 20 := by rw [size_bs]; simp at hol; omega
        have hpb : p.natAbs < m.natAbs := by rw [← hp', Int.natAbs_tdiv]; show m.natAbs / 10 < m.natAbs; omega
        have hcc : bs (c :: o) = bs [c] ++ bs o := rfl
        clear hst hr hp hc hmo
        have hbw := hbr.alloc hbr.size (.cells #[.int .u8 (c.toNat : Int)] 5)
        have hconv : (convert 59 9 (.slice (some ⟨wr.heap.size, 0, none⟩) 1 1)).run Tryz.prog (wr.alloc (.cells #[.int .u8 (c.toNat : Int)] 5)) = .ok (.string (bs [c])) (wr.alloc (.cells #[.int .u8 (c.toNat : Int)] 5)) :=
          own_string 59 9 5 (base := wr.heap.size) (l := [c]) (World.ownsRow_lit wr #[.int .u8 (c.toNat : Int)] 1 (Nat.le_refl _) (by unfold maxLen; omega) rfl) Tryz.underlying59 Tryz.underlying5 Tryz.underlying9
        have hb1 : (bs [c]).size = 1 := rfl
        by_cases hrn : r < 0
        · have hce : (c.toNat : Int) = 48 + -r := by omega
          rw [hce] at hconv hbw
          go_wp2_with fail
          all_goals (try (exfalso; omega))
          go_roundw
          case rel => exact ⟨p, c :: o, rfl, by rw [hcc], by omega, by omega, by omega, by omega, hmo2, hbw⟩
          case measure => simp [intOf]; omega
        · have hce : (c.toNat : Int) = 48 + r := by omega
          rw [hce] at hconv hbw
          go_wp2_with fail
          all_goals (try (exfalso; omega))
          go_roundw
          case rel => exact ⟨p, c :: o, rfl, by rw [hcc], by omega, by omega, by omega, by omega, hmo2, hbw⟩
          case measure => simp [intOf]; omega
end Go.Proofs.YtfgaiopkclogmaaGreatDoor
namespace Go.Proofs.YtfgaiopkclogmaaGreatDoor
open Go Go.RowKit

theorem digC_facts (u : Nat) : isDig (digC u) = true ∧ dg (digC u) = ((u % 10 : Nat) : Int) := by
  have h := digC_toNat u
  have h2 : u % 10 < 10 := Nat.mod_lt _ (by decide)
  unfold isDig dg
  exact ⟨decide_eq_true (by omega), by omega⟩
theorem val_dec (u : Nat) : valOf (Lib.decDigits u) = u ∧ (Lib.decDigits u).all isDig = true ∧ Lib.decDigits u ≠ [] := by
  induction u using Nat.strongRecOn with
  | _ u ih =>
    obtain ⟨k1, k2⟩ := digC_facts u
    rw [decDigits_step]
    by_cases h : u / 10 = 0
    · rw [if_pos h]
      refine ⟨?_, by simp [k1], by simp⟩
      rw [valOf_snoc, valOf_nil, k2]; omega
    · rw [if_neg h]
      obtain ⟨i1, i2, -⟩ := ih (u / 10) (by omega)
      refine ⟨?_, by rw [List.all_append, i2]; simp [k1], by simp⟩
      rw [valOf_snoc, i1, k2]; omega
theorem dec_len : ∀ (k u : Nat), 10 ^ k ≤ u → u < 10 ^ (k + 1) → (Lib.decDigits u).length = k + 1
  | 0, u, _, h => by
    rw [decDigits_step, if_pos (by omega)]; rfl
  | k + 1, u, h0, h1 => by
    have e0 : 10 ^ (k + 1) = 10 * 10 ^ k := by rw [Nat.pow_succ, Nat.mul_comm]
    have e1 : 10 ^ (k + 1 + 1) = 10 * 10 ^ (k + 1) := by rw [Nat.pow_succ, Nat.mul_comm]
    have hp : 0 < 10 ^ k := Nat.pos_of_ne_zero (by simp)
    rw [decDigits_step, if_neg (by omega), List.length_append, dec_len k (u / 10) (by omega) (by omega)]; rfl
theorem itoa_nat (n : Nat) : Lib.itoa n = Lib.decDigits n := by
  unfold Lib.itoa; rw [if_neg (by omega)]; rfl

theorem pig : ∀ (m : Nat) (f : Nat → Nat), (∀ i, i ≤ m → f i < m) → ∃ i j, i < j ∧ j ≤ m ∧ f i = f j
  | 0, f, h => absurd (h 0 (Nat.le_refl _)) (by omega)
  | m + 1, f, h => by
    by_cases hx : ∃ i, i ≤ m ∧ f i = f (m + 1)
    · obtain ⟨i, hi, he⟩ := hx
      exact ⟨i, m + 1, by omega, Nat.le_refl _, he⟩
    · have hn : ∀ i, i ≤ m → f i ≠ f (m + 1) := fun i hi he => hx ⟨i, hi, he⟩
      have hl := h (m + 1) (Nat.le_refl _)
      obtain ⟨i, j, hij, hj, he⟩ := pig m (fun i => if f i = m then f (m + 1) else f i) (fun i hi => by
        have h1 := h i (by omega)
        have h2 := hn i hi
        show (if f i = m then f (m + 1) else f i) < m
        split <;> omega)
      have n1 := hn i (by omega)
      have n2 := hn j hj
      refine ⟨i, j, hij, by omega, ?_⟩
      split at he <;> split at he <;> omega

def markL (n : Nat) : List UInt8 := [112, 97, 114, 116] ++ Lib.itoa n
def standL (n : Nat) : List UInt8 := [45, 45] ++ markL n
def hasN (l : List UInt8) (n : Nat) : Bool := Lib.contains l (standL n)
theorem pre_eq {a b l : List UInt8} (ha : a.isPrefixOf l = true) (hb : b.isPrefixOf l = true) (hl : a.length = b.length) : a = b := by
  rw [List.isPrefixOf_iff_prefix] at ha hb
  obtain ⟨x, hx⟩ := ha
  obtain ⟨y, hy⟩ := hb
  exact (List.append_inj (hx.trans hy.symm) hl).1
/-- 'hasN' of the numbers of seven digits alone -/
theorem seven_mark (l : List UInt8) (B C : Nat) (hB : 10 ^ 6 ≤ B) (hC : C < 10 ^ 7) (hl : l.length + 1 + B ≤ C) : ∃ N, N ≤ C ∧ hasN l N = false := by
  by_cases hc : ∃ N, N ≤ C ∧ hasN l N = false
  · exact hc
  · exfalso
    have hall : ∀ N, N ≤ C → ∃ i : Nat, i ≤ l.length ∧ Lib.occAt l (standL N) i = true := by
      intro N hN
      have ht : hasN l N = true := by
        cases hq : hasN l N
        · exact absurd ⟨N, hN, hq⟩ hc
        · rfl
      unfold hasN Lib.contains at ht
      rcases Lib.index_spec l (standL N) with ⟨h1, _⟩ | ⟨i, _, h2, h3, _⟩
      · rw [h1] at ht; simp at ht
      · exact ⟨i, h2, h3⟩
    obtain ⟨i, j, hij, hj, he⟩ := pig (l.length + 1) (fun k => if h : k + B ≤ C then Classical.choose (hall (k + B) h) else 0) (fun k hk => by
      show (if h : k + B ≤ C then Classical.choose (hall (k + B) h) else 0) < l.length + 1
      rw [dif_pos (by omega)]
      have := (Classical.choose_spec (hall (k + B) (by omega))).1
      omega)
    rw [dif_pos (by omega), dif_pos (by omega)] at he
    have p1 := (Classical.choose_spec (hall (i + B) (by omega))).2
    have p2 := (Classical.choose_spec (hall (j + B) (by omega))).2
    rw [he] at p1
    unfold Lib.occAt at p1 p2
    have d1 := dec_len 6 (i + B) (Nat.le_trans hB (by omega)) (Nat.lt_of_le_of_lt (by omega) hC)
    have d2 := dec_len 6 (j + B) (Nat.le_trans hB (by omega)) (Nat.lt_of_le_of_lt (by omega) hC)
    have e := pre_eq p1 p2 (by unfold standL markL; rw [itoa_nat, itoa_nat]; simp [d1, d2])
    unfold standL markL at e
    rw [itoa_nat, itoa_nat] at e
    have e2 := List.append_cancel_left (List.append_cancel_left e)
    have v1 := (val_dec (i + B)).1
    have v2 := (val_dec (j + B)).1
    rw [e2] at v1
    omega
theorem first_mark (l : List UInt8) (hl : l.length ≤ 1048576) : ∃ M : Nat, M ≤ 3000000 ∧ Hid (hasN l M = false) ∧ Hid (∀ j, j < M → hasN l j = true) := by
  have hex : ∃ N, N ≤ 3000000 ∧ hasN l N = false := by
    obtain ⟨N, hN, hf⟩ := seven_mark l 1000000 3000000 (by decide) (by decide) (by omega)
    exact ⟨N, hN, hf⟩
  obtain ⟨N, hN, hNf⟩ := hex
  have hmin : ∀ n : Nat, hasN l n = false → ∃ M, M ≤ n ∧ hasN l M = false ∧ ∀ j, j < M → hasN l j = true := by
    intro n
    induction n using Nat.strongRecOn with
    | _ n ih =>
      intro hn
      by_cases hc : ∃ j, j < n ∧ hasN l j = false
      · obtain ⟨j, hj, hjf⟩ := hc
        obtain ⟨M, h1, h2, h3⟩ := ih j hj hjf
        exact ⟨M, by omega, h2, h3⟩
      · refine ⟨n, Nat.le_refl _, hn, fun j hj => ?_⟩
        cases hq : hasN l j
        · exact absurd ⟨j, hj, hq⟩ hc
        · rfl
  obtain ⟨M, h1, h2, h3⟩ := hmin N hNf
  exact ⟨M, by omega, h2, h3⟩
end Go.Proofs.YtfgaiopkclogmaaGreatDoor
namespace Go.Proofs.YtfgaiopkclogmaaGreatDoor
open Go Go.RowKit

theorem nf : ¬ (false = true) := by decide
theorem litS_ok (S : List UInt8) : ∀ (t : List UInt8) (n m : Nat), litS S t (n, false) = (m, false) → S.drop n = t ++ S.drop m ∧ m = n + t.length
  | [], n, m, h => by
    injection h with h _
    subst h
    exact ⟨rfl, rfl⟩
  | c :: t, n, m, h => by
    rw [litS, if_neg nf] at h
    split at h
    · rename_i hc
      obtain ⟨e1, e2⟩ := litS_ok S t (n + 1) m h
      obtain ⟨hlt, hv⟩ := List.getElem?_eq_some_iff.1 hc
      refine ⟨?_, by rw [List.length_cons]; omega⟩
      have hv2 : S[n]'hlt = c := hv
      rw [List.drop_eq_getElem_cons hlt, hv2, e1, List.cons_append]
    · injection h with _ h; cases h
theorem runK_all (may : UInt8 → Bool) : ∀ (m : Nat) (l : List UInt8), (l.take (runK may m l)).all may = true
  | 0, _ => by rw [runK, List.take_zero]; rfl
  | _ + 1, [] => rfl
  | m + 1, c :: r => by
    rw [runK]
    split
    · rename_i hc
      rw [List.take_succ_cons, List.all_cons, hc, runK_all may m r]; rfl
    · rw [List.take_zero]; rfl
theorem runS_ok (S : List UInt8) (may : UInt8 → Bool) (mx n m : Nat) (h : runS S may mx (n, false) = (m, false)) : ∃ x, S.drop n = x ++ S.drop m ∧ x.all may = true ∧ 1 ≤ x.length ∧ x.length ≤ mx ∧ m = n + x.length := by
  unfold runS at h
  rw [if_neg nf] at h
  injection h with hm hb
  have hk : runK may mx (S.drop n) ≠ 0 := of_decide_eq_false hb
  have hl := runK_le may mx (S.drop n)
  have ha := runK_all may mx (S.drop n)
  have hm : n + runK may mx (S.drop n) = m := hm
  obtain ⟨k, hkk⟩ : ∃ k, runK may mx (S.drop n) = k := ⟨_, rfl⟩
  rw [hkk] at hk hl ha hm
  have hlen : ((S.drop n).take k).length = k := by rw [List.length_take]; omega
  refine ⟨(S.drop n).take k, ?_, ha, by omega, by omega, by omega⟩
  rw [← hm, ← List.drop_drop, List.take_append_drop]
theorem val_pos {d : List UInt8} {c : UInt8} (ha : d.all isDig = true) (hh : d.head? = some c) (hc : c ≠ 48) : 0 < valOf d := by
  have h1 := valOf_take d ha 1
  cases d with
  | nil => cases hh
  | cons x r =>
    rw [List.head?_cons] at hh
    injection hh with hh
    subst hh
    rw [List.all_cons, Bool.and_eq_true] at ha
    have hb := dg_bd ha.1
    have e : valOf ((x :: r).take 1) = dg x := by show 10 * 0 + dg x = dg x; omega
    rw [e] at h1
    have hx : dg x ≠ 0 := by
      intro h0
      apply hc
      unfold dg at h0
      apply UInt8.toNat_inj.1
      show x.toNat = 48
      omega
    omega
theorem digC_of {c : UInt8} {u : Nat} (_ : isDig c = true) (hu : ((u % 10 : Nat) : Int) = dg c) : digC u = c := by
  apply UInt8.toNat_inj.1
  have h1 := digC_toNat u
  unfold dg at hu
  omega
/-- digits without a 0 ahead are a number's numeral -/
theorem dec_of : ∀ (d : List UInt8), d.all isDig = true → d ≠ [] → (d.length ≤ 1 ∨ d.head? ≠ some 48) → Lib.decDigits (valOf d).toNat = d := by
  intro d
  refine snoc_ind (P := fun d => d.all isDig = true → d ≠ [] → (d.length ≤ 1 ∨ d.head? ≠ some 48) → Lib.decDigits (valOf d).toNat = d) (fun _ h => absurd rfl h) ?_ d
  intro l c ih ha _ hh
  rw [List.all_append, Bool.and_eq_true, List.all_cons, Bool.and_eq_true] at ha
  have hb := dg_bd ha.2.1
  rw [valOf_snoc, decDigits_step]
  cases l with
  | nil =>
    rw [valOf_nil]
    rw [if_pos (by omega), List.nil_append, List.nil_append, digC_of ha.2.1 (by omega)]
  | cons x r =>
    have hne : (x :: r).head? ≠ some 48 := by
      rcases hh with h | h
      · simp at h
      · rw [List.cons_append, List.head?_cons] at h; rw [List.head?_cons]; exact h
    have hx : x ≠ 48 := fun e => hne (by rw [e]; rfl)
    have hp := val_pos ha.1 (List.head?_cons ..) hx
    have hi := ih ha.1 (by simp) (Or.inr hne)
    obtain ⟨v, hv⟩ : ∃ v, valOf (x :: r) = v := ⟨_, rfl⟩
    rw [hv] at hp hi ⊢
    have e1 : (10 * v + dg c).toNat / 10 = v.toNat := by omega
    rw [e1, if_neg (by omega), hi, digC_of ha.2.1 (by omega)]
theorem itoa_of {d : List UInt8} (ha : d.all isDig = true) (hne : d ≠ []) (hh : d.length ≤ 1 ∨ d.head? ≠ some 48) : Lib.itoa (valOf d) = d := by
  have h0 := valOf_nonneg d ha
  have := itoa_nat (valOf d).toNat
  rw [show (((valOf d).toNat : Nat) : Int) = valOf d by omega] at this
  rw [this]
  exact dec_of d ha hne hh
theorem numS_ok (S : List UInt8) (n m : Nat) (v : Int) (h : numS S (n, false) = (v, (m, false))) : S.drop n = Lib.itoa v ++ S.drop m ∧ 0 ≤ v ∧ v ≤ mostI ∧ n < m := by
  unfold numS at h
  rw [if_neg nf] at h
  obtain ⟨q, hq⟩ : ∃ q, numK (S.drop n) 0 0 = q := ⟨_, rfl⟩
  obtain ⟨x, k, b⟩ := q
  simp only [] at h
  rw [hq] at h
  injection h with hx h
  injection h with hk hb
  have hx : x = v := hx
  have hk : n + k = m := hk
  have hb : b = false := hb
  subst hx hk hb
  obtain ⟨d, e1, e2, e3, e4, e5, e6, e7, _, e9⟩ := numK_ok _ _ _ _ _ hq (Int.le_refl 0) (by unfold mostI; omega)
  have hd : d ≠ [] := fun e => by rw [e] at e3; simp at e3; omega
  have hv : x = valOf d := e4
  refine ⟨?_, e5, e6, by omega⟩
  rw [hv, itoa_of e2 hd (e9 rfl rfl), e3]
  rw [Nat.zero_add, ← List.drop_drop]
  exact e1
def esc (l : List UInt8) : List UInt8 := l.flatMap fun c => if c = 34 ∨ c = 92 then [92, c] else [c]
theorem esc_cons (c : UInt8) (l : List UInt8) : esc (c :: l) = (if c = 34 ∨ c = 92 then [92, c] else [c]) ++ esc l := by simp [esc]
def quoteL (l : List UInt8) : List UInt8 := [34] ++ esc l ++ [34]
theorem tgtK_ok : ∀ (f : Nat) (r out : List UInt8) (k : Nat) (t : List UInt8) (m : Nat), r.length ≤ f → tgtK r out k = (t, m, false) → out.length ≤ 65536 →
    ∃ y, t = out ++ y ∧ r = esc y ++ r.drop (esc y).length ∧ m = k + (esc y).length ∧ y.all tgtB = true ∧ t.length ≤ 65536
  | _, [], out, k, t, m, _, h, ho => by
    rw [tgtK] at h
    injection h with ht h
    injection h with hm _
    subst ht hm
    exact ⟨[], by simp, rfl, rfl, rfl, ho⟩
  | 0, c :: r, out, k, t, m, hf, h, ho => by simp at hf
  | f + 1, c :: r, out, k, t, m, hf, h, ho => by
    rw [List.length_cons] at hf
    unfold tgtK at h
    split at h
    · injection h with ht h
      injection h with hm _
      subst ht hm
      exact ⟨[], by simp, rfl, rfl, rfl, ho⟩
    · rename_i h34
      split at h
      · injection h with _ h; injection h with _ h; cases h
      · rename_i hno
        have htb : tgtB c = true := by
          cases hh : tgtB c
          · exact absurd (Or.inl hh) hno
          · rfl
        have hol : out.length ≠ 65536 := fun e => hno (Or.inr e)
        split at h
        · rename_i h92
          cases r with
          | nil => injection h with _ h; injection h with _ h; cases h
          | cons d r' =>
            simp only [] at h
            split at h
            · injection h with _ h; injection h with _ h; cases h
            · rename_i hd
              have hd2 : d = 34 ∨ d = 92 := by
                by_cases e : d = 34
                · exact Or.inl e
                · by_cases e2 : d = 92
                  · exact Or.inr e2
                  · exact absurd ⟨e, e2⟩ hd
              rw [List.length_cons] at hf
              obtain ⟨y, e1, e2, e3, e4, e5⟩ := tgtK_ok f r' (out ++ [d]) (k + 2) t m (by omega) h (by rw [List.length_append, List.length_singleton]; omega)
              refine ⟨d :: y, by rw [e1, List.append_assoc]; rfl, ?_, ?_, ?_, e5⟩
              · rw [esc_cons, if_pos hd2, h92]
                show 92 :: d :: r' = [92, d] ++ esc y ++ (92 :: d :: r').drop ([92, d] ++ esc y).length
                rw [List.length_append, show [(92 : UInt8), d].length = 2 from rfl, Nat.add_comm 2, List.drop_succ_cons, List.drop_succ_cons]
                conv => lhs; rw [e2]
                rfl
              · rw [esc_cons, if_pos hd2, List.length_append, show [(92 : UInt8), d].length = 2 from rfl]; omega
              · rw [List.all_cons, e4, Bool.and_true]
                rcases hd2 with rfl | rfl <;> decide
        · rename_i h92
          have hd2 : ¬ (c = 34 ∨ c = 92) := by
            rintro (e | e)
            · exact h34 e
            · exact h92 e
          obtain ⟨y, e1, e2, e3, e4, e5⟩ := tgtK_ok f r (out ++ [c]) (k + 1) t m (by omega) h (by rw [List.length_append, List.length_singleton]; omega)
          refine ⟨c :: y, by rw [e1, List.append_assoc]; rfl, ?_, ?_, ?_, e5⟩
          · rw [esc_cons, if_neg hd2]
            show c :: r = [c] ++ esc y ++ (c :: r).drop ([c] ++ esc y).length
            rw [List.length_append, show [c].length = 1 from rfl, Nat.add_comm 1, List.drop_succ_cons]
            conv => lhs; rw [e2]
            rfl
          · rw [esc_cons, if_neg hd2, List.length_append, show [c].length = 1 from rfl]; omega
          · rw [List.all_cons, e4, htb]; rfl
theorem tgtS_ok (S : List UInt8) (n m : Nat) (t : List UInt8) (h : tgtS S (n, false) = (t, (m, false))) : S.drop n = quoteL t ++ S.drop m ∧ t.all tgtB = true ∧ 1 ≤ t.length ∧ t.length ≤ 65536 := by
  unfold tgtS at h
  obtain ⟨a, ha⟩ : ∃ a, litS S [34] (n, false) = a := ⟨_, rfl⟩
  obtain ⟨n1, b1⟩ := a
  rw [ha] at h
  simp only [] at h
  split at h
  · rename_i hb
    injection h with _ h
    injection h with _ h
    rw [h] at hb; cases hb
  · rename_i hb
    have hb1 : b1 = false := by cases b1 with | false => rfl | true => exact absurd rfl hb
    subst hb1
    obtain ⟨e1, e2⟩ := litS_ok S _ _ _ ha
    obtain ⟨q, hq⟩ : ∃ q, tgtK (S.drop n1) [] 0 = q := ⟨_, rfl⟩
    obtain ⟨t1, k, b2⟩ := q
    rw [hq] at h
    simp only [] at h
    injection h with ht h
    subst ht
    have hbb : (b2 || decide (t1 = [])) = false := by
      cases hx : (b2 || decide (t1 = []))
      · rfl
      · rw [hx, litS_bad] at h; exact absurd (congrArg Prod.snd h) (by simp)
    rw [hbb] at h
    rw [Bool.or_eq_false_iff] at hbb
    obtain ⟨hb2, hne⟩ := hbb
    subst hb2
    obtain ⟨y, f1, f2, f3, f4, f5⟩ := tgtK_ok _ _ _ _ _ _ (Nat.le_refl _) hq (by simp)
    rw [List.nil_append] at f1
    subst f1
    obtain ⟨e3, e4⟩ := litS_ok S _ _ _ h
    have hne2 : t1 ≠ [] := of_decide_eq_false hne
    refine ⟨?_, f4, List.length_pos_iff.2 hne2, f5⟩
    rw [e1, f2]
    rw [Nat.zero_add] at f3
    rw [f3] at e3
    rw [List.drop_drop, e3]
    unfold quoteL
    simp
theorem stK_three (c1 c2 c3 : UInt8) (r : List UInt8) (v : Int) (m : Nat) (h : stK 3 (c1 :: c2 :: c3 :: r) 0 0 = (v, m, false)) : isDig c1 = true ∧ isDig c2 = true ∧ isDig c3 = true ∧ 49 ≤ c1.toNat ∧ c1.toNat ≤ 53 ∧ v = valOf [c1, c2, c3] ∧ m = 3 := by
  rw [stK] at h
  split at h
  · injection h with _ h; injection h with _ h; cases h
  · rename_i n1
    rw [stK] at h
    split at h
    · injection h with _ h; injection h with _ h; cases h
    · rename_i n2
      rw [stK] at h
      split at h
      · injection h with _ h; injection h with _ h; cases h
      · rename_i n3
        rw [stK] at h
        injection h with hv h
        injection h with hm _
        have d1 : isDig c1 = true := by cases hh : isDig c1 with | true => rfl | false => exact absurd (Or.inl hh) n1
        have d2 : isDig c2 = true := by cases hh : isDig c2 with | true => rfl | false => exact absurd (Or.inl hh) n2
        have d3 : isDig c3 = true := by cases hh : isDig c3 with | true => rfl | false => exact absurd (Or.inl hh) n3
        have h1 : 49 ≤ c1.toNat ∧ c1.toNat ≤ 53 := by
          by_cases e : 49 ≤ c1.toNat ∧ c1.toNat ≤ 53
          · exact e
          · exact absurd (Or.inr ⟨rfl, e⟩) n1
        exact ⟨d1, d2, d3, h1.1, h1.2, by rw [← hv]; rfl, hm.symm⟩
theorem stS_ok (S : List UInt8) (n m : Nat) (v : Int) (h : stS S (n, false) = (v, (m, false))) : S.drop n = Lib.itoa v ++ S.drop m ∧ 100 ≤ v ∧ v ≤ 599 := by
  unfold stS at h
  rw [if_neg nf] at h
  obtain ⟨q, hq⟩ : ∃ q, stK 3 (S.drop n) 0 0 = q := ⟨_, rfl⟩
  obtain ⟨x, k, b⟩ := q
  simp only [] at h
  rw [hq] at h
  injection h with hx h
  injection h with hk hb
  have hx : x = v := hx
  have hk : n + k = m := hk
  have hb : b = false := hb
  subst hx hk hb
  obtain ⟨R, hR⟩ : ∃ R, S.drop n = R := ⟨_, rfl⟩
  rw [hR] at hq
  match R, hR, hq with
  | [], _, hq => simp [stK] at hq
  | [c1], _, hq => simp only [stK] at hq; split at hq <;> simp at hq
  | [c1, c2], _, hq => simp only [stK] at hq; split at hq <;> (try split at hq) <;> simp at hq
  | c1 :: c2 :: c3 :: r, hR, hq =>
    obtain ⟨d1, d2, d3, l1, l2, e1, e2⟩ := stK_three c1 c2 c3 r x k hq
    have b2 := dg_bd d2
    have b3 := dg_bd d3
    have ev : valOf [c1, c2, c3] = 10 * (10 * (10 * 0 + dg c1) + dg c2) + dg c3 := rfl
    have l1' : 1 ≤ dg c1 ∧ dg c1 ≤ 5 := by unfold dg; omega
    refine ⟨?_, by rw [e1, ev]; omega, by rw [e1, ev]; omega⟩
    rw [e1, itoa_of (by simp [d1, d2, d3]) (by simp) (Or.inr (by
      rw [List.head?_cons]
      intro e
      injection e with e
      subst e
      exact absurd l1 (by decide))), e2, ← List.drop_drop, hR]
    rfl
end Go.Proofs.YtfgaiopkclogmaaGreatDoor
namespace Go.Proofs.YtfgaiopkclogmaaGreatDoor
open Go Go.RowKit
set_option maxHeartbeats 2000000

def isLet (c : UInt8) : Bool := decide ((65 ≤ c.toNat ∧ c.toNat ≤ 90) ∨ (97 ≤ c.toNat ∧ c.toNat ≤ 122))
theorem isletter_any (c : UInt8) (w : World) : Calls Tryz.prog 91 #[.int .u8 c.toNat] w fun e w' => e = .returned (.bool (isLet c)) ∧ w = w' := by
  obtain ⟨R, hR⟩ := name_it (isLet c)
  rw [hR.out]
  go_enter Tryz.func91, Tryz.ntmps91
  go_wp2
  all_goals go_ret
  all_goals exact ⟨ret_bool (by rw [← hR.out, Bool.eq_iff_iff]; simp [isLet]; omega), rfl⟩
def marksB : ByteArray := ⟨#[39, 40, 41, 43, 95, 44, 45, 46, 47, 58, 61, 63]⟩
def marksL : List UInt8 := [39, 40, 41, 43, 95, 44, 45, 46, 47, 58, 61, 63]
def specB (c : UInt8) : Bool := marksL.any (· == c)
def markB (c : UInt8) : Bool := (isLet c || isDig c) || specB c
def isMk (l : List UInt8) : Bool := l.all markB && decide (1 ≤ l.length ∧ l.length ≤ 70)
theorem letdig_cases (c : UInt8) : ((isLet c || isDig c) = true ∧ ((97 ≤ c.toNat ∧ c.toNat ≤ 122) ∨ (65 ≤ c.toNat ∧ c.toNat ≤ 90) ∨ (48 ≤ c.toNat ∧ c.toNat ≤ 57)))
    ∨ ((isLet c || isDig c) = false ∧ (c.toNat < 48 ∨ (57 < c.toNat ∧ c.toNat < 65) ∨ (90 < c.toNat ∧ c.toNat < 97) ∨ 122 < c.toNat)) := by
  cases h : (isLet c || isDig c)
  · refine Or.inr ⟨rfl, ?_⟩
    simp [isLet, isDig] at h
    omega
  · refine Or.inl ⟨rfl, ?_⟩
    simp [isLet, isDig] at h
    omega

end Go.Proofs.YtfgaiopkclogmaaGreatDoor
namespace Go.Proofs.YtfgaiopkclogmaaGreatDoor
open Go Go.RowKit

/-- an entry: its name, method, target, and its numbers -/
structure En where
  name : List UInt8
  meth : List UInt8
  tgt : List UInt8
  conn : Int
  numb : Int
  tick : Int
  stat : Int
  byts : Int
def nameB (c : UInt8) : Bool := (isLet c || isDig c) || (c == 45 || c == 95 || c == 46)
def signL : List UInt8 := [33, 35, 36, 37, 38, 39, 42, 43, 45, 46, 94, 95, 96, 124, 126]
def signB (c : UInt8) : Bool := (isDig c || isLet c) || signL.any (· == c)
def conL : List UInt8 := [32, 99, 111, 110, 110, 61]
def numbL : List UInt8 := [32, 110, 117, 109, 98, 101, 114, 61]
def tickL : List UInt8 := [32, 116, 105, 99, 107, 61]
def printL (e : En) : List UInt8 :=
  e.name ++ (conL ++ (Lib.itoa e.conn ++ (numbL ++ (Lib.itoa e.numb ++ (tickL ++ (Lib.itoa e.tick ++ ([32] ++ (e.meth ++ ([32] ++ (quoteL e.tgt ++ ([32] ++ (Lib.itoa e.stat ++ ([32] ++ Lib.itoa e.byts)))))))))))))
def rightE (e : En) : Bool :=
  decide (0 ≤ e.conn ∧ 0 ≤ e.numb ∧ 0 ≤ e.byts ∧ 0 ≤ e.tick ∧ 100 ≤ e.stat ∧ e.stat ≤ 599)
    && ((e.name.all nameB && decide (1 ≤ e.name.length ∧ e.name.length ≤ 64)) && ((e.meth.all signB && decide (1 ≤ e.meth.length ∧ e.meth.length ≤ 24)) && (e.tgt.all tgtB && decide (1 ≤ e.tgt.length ∧ e.tgt.length ≤ 65536))))
/-! What is read of a line, step by step. -/
def pA (S : List UInt8) : St := runS S nameB 64 (0, false)
def pB (S : List UInt8) : St := litS S conL (pA S)
def pC (S : List UInt8) : Int × St := numS S (pB S)
def pD (S : List UInt8) : St := litS S numbL (pC S).2
def pE (S : List UInt8) : Int × St := numS S (pD S)
def pF (S : List UInt8) : St := litS S tickL (pE S).2
def pG (S : List UInt8) : Int × St := numS S (pF S)
def pH (S : List UInt8) : St := litS S [32] (pG S).2
def pI (S : List UInt8) : St := runS S signB 24 (pH S)
def pJ (S : List UInt8) : St := litS S [32] (pI S)
def pK (S : List UInt8) : List UInt8 × St := tgtS S (pJ S)
def pL (S : List UInt8) : St := litS S [32] (pK S).2
def pM (S : List UInt8) : Int × St := stS S (pL S)
def pN (S : List UInt8) : St := litS S [32] (pM S).2
def pO (S : List UInt8) : Int × St := numS S (pN S)
def parsedE (S : List UInt8) : En := ⟨S.take (pA S).1, (S.drop (pH S).1).take ((pI S).1 - (pH S).1), (pK S).1, (pC S).1, (pE S).1, (pG S).1, (pM S).1, (pO S).1⟩
def parseEnd (S : List UInt8) : St := (pO S).2
def parsesB (S : List UInt8) : Bool := !(parseEnd S).2 && decide ((parseEnd S).1 = S.length)

theorem st_eta {st : St} (h : st.2 = false) : st = (st.1, false) := Prod.ext rfl h
theorem litS_step {S t : List UInt8} {st : St} (h : (litS S t st).2 = false) : st.2 = false ∧ S.drop st.1 = t ++ S.drop (litS S t st).1 := by
  have hb : st.2 = false := by
    cases hh : st.2
    · rfl
    · rw [show st = (st.1, true) from Prod.ext rfl hh, litS_bad] at h; cases h
  have e := st_eta h
  rw [st_eta hb] at e ⊢
  exact ⟨rfl, (litS_ok S t _ _ e).1⟩
theorem runS_step {S : List UInt8} {may : UInt8 → Bool} {mx : Nat} {st : St} (h : (runS S may mx st).2 = false) :
    st.2 = false ∧ ∃ x, S.drop st.1 = x ++ S.drop (runS S may mx st).1 ∧ x.all may = true ∧ 1 ≤ x.length ∧ x.length ≤ mx ∧ (S.drop st.1).take ((runS S may mx st).1 - st.1) = x := by
  have hb : st.2 = false := by
    cases hh : st.2
    · rfl
    · unfold runS at h; rw [if_pos hh, hh] at h; cases h
  have e := st_eta h
  rw [st_eta hb] at e ⊢
  obtain ⟨x, e1, e2, e3, e4, e5⟩ := runS_ok S may mx _ _ e
  refine ⟨rfl, x, e1, e2, e3, e4, ?_⟩
  rw [e1, show (runS S may mx (st.1, false)).1 - (st.1, false).1 = x.length by show _ - st.1 = _; omega, List.take_left]
theorem numS_step {S : List UInt8} {st : St} (h : (numS S st).2.2 = false) : st.2 = false ∧ S.drop st.1 = Lib.itoa (numS S st).1 ++ S.drop (numS S st).2.1 ∧ 0 ≤ (numS S st).1 ∧ (numS S st).1 ≤ mostI := by
  have hb : st.2 = false := by
    cases hh : st.2
    · rfl
    · unfold numS at h; rw [if_pos hh, hh] at h; cases h
  have e : numS S st = ((numS S st).1, ((numS S st).2.1, false)) := Prod.ext rfl (st_eta h)
  rw [st_eta hb] at e ⊢
  have := numS_ok S _ _ _ e
  exact ⟨rfl, this.1, this.2.1, this.2.2.1⟩
theorem tgtS_step {S : List UInt8} {st : St} (h : (tgtS S st).2.2 = false) : st.2 = false ∧ S.drop st.1 = quoteL (tgtS S st).1 ++ S.drop (tgtS S st).2.1 ∧ (tgtS S st).1.all tgtB = true ∧ 1 ≤ (tgtS S st).1.length ∧ (tgtS S st).1.length ≤ 65536 := by
  have hb : st.2 = false := by
    cases hh : st.2
    · rfl
    · unfold tgtS at h
      rw [show st = (st.1, true) from Prod.ext rfl hh, litS_bad] at h
      simp at h
  have e : tgtS S st = ((tgtS S st).1, ((tgtS S st).2.1, false)) := Prod.ext rfl (st_eta h)
  rw [st_eta hb] at e ⊢
  have := tgtS_ok S _ _ _ e
  exact ⟨rfl, this.1, this.2.1, this.2.2.1, this.2.2.2⟩
theorem stS_step {S : List UInt8} {st : St} (h : (stS S st).2.2 = false) : st.2 = false ∧ S.drop st.1 = Lib.itoa (stS S st).1 ++ S.drop (stS S st).2.1 ∧ 100 ≤ (stS S st).1 ∧ (stS S st).1 ≤ 599 := by
  have hb : st.2 = false := by
    cases hh : st.2
    · rfl
    · unfold stS at h; rw [if_pos hh, hh] at h; cases h
  have e : stS S st = ((stS S st).1, ((stS S st).2.1, false)) := Prod.ext rfl (st_eta h)
  rw [st_eta hb] at e ⊢
  have := stS_ok S _ _ _ e
  exact ⟨rfl, this.1, this.2.1, this.2.2⟩
/-- THE LAW: a line that says an entry is that entry's line, and the entry is right. -/
theorem parse_once (S : List UInt8) (h : (parseEnd S).2 = false) (hn : (parseEnd S).1 = S.length) : printL (parsedE S) = S ∧ rightE (parsedE S) = true := by
  obtain ⟨hN, eO, o1, o2⟩ := numS_step (st := pN S) h
  obtain ⟨hM, eN⟩ := litS_step (st := (pM S).2) hN
  obtain ⟨hL, eM, m1, m2⟩ := stS_step (st := pL S) hM
  obtain ⟨hK, eL⟩ := litS_step (st := (pK S).2) hL
  obtain ⟨hJ, eK, k1, k2, k3⟩ := tgtS_step (st := pJ S) hK
  obtain ⟨hI, eJ⟩ := litS_step (st := pI S) hJ
  obtain ⟨hH, xi, eI, i1, i2, i3, i4⟩ := runS_step (st := pH S) hI
  obtain ⟨hG, eH⟩ := litS_step (st := (pG S).2) hH
  obtain ⟨hF, eG, g1, g2⟩ := numS_step (st := pF S) hG
  obtain ⟨hE, eF⟩ := litS_step (st := (pE S).2) hF
  obtain ⟨hD, eE, e1, e2⟩ := numS_step (st := pD S) hE
  obtain ⟨hC, eD⟩ := litS_step (st := (pC S).2) hD
  obtain ⟨hB, eC, c1, c2⟩ := numS_step (st := pB S) hC
  obtain ⟨hA, eB⟩ := litS_step (st := pA S) hB
  obtain ⟨_, xa, eA, a1, a2, a3, a4⟩ := runS_step (st := (0, false)) hA
  have nA : (parsedE S).name = xa := a4
  have nI : (parsedE S).meth = xi := i4
  have hall : S.drop (parseEnd S).1 = [] := by rw [hn]; exact List.drop_of_length_le (Nat.le_refl _)
  constructor
  · unfold printL
    rw [nA, nI]
    have e0 : S = S.drop 0 := rfl
    conv => rhs; rw [e0]
    have fO : S.drop (pN S).1 = Lib.itoa (parsedE S).byts := by
      have := eO
      rw [show S.drop (numS S (pN S)).2.1 = [] from hall, List.append_nil] at this
      exact this
    have fN : S.drop (pM S).2.1 = [32] ++ S.drop (pN S).1 := eN
    have fM : S.drop (pL S).1 = Lib.itoa (parsedE S).stat ++ S.drop (pM S).2.1 := eM
    have fL : S.drop (pK S).2.1 = [32] ++ S.drop (pL S).1 := eL
    have fK : S.drop (pJ S).1 = quoteL (parsedE S).tgt ++ S.drop (pK S).2.1 := eK
    have fJ : S.drop (pI S).1 = [32] ++ S.drop (pJ S).1 := eJ
    have fI : S.drop (pH S).1 = xi ++ S.drop (pI S).1 := eI
    have fH : S.drop (pG S).2.1 = [32] ++ S.drop (pH S).1 := eH
    have fG : S.drop (pF S).1 = Lib.itoa (parsedE S).tick ++ S.drop (pG S).2.1 := eG
    have fF : S.drop (pE S).2.1 = tickL ++ S.drop (pF S).1 := eF
    have fE : S.drop (pD S).1 = Lib.itoa (parsedE S).numb ++ S.drop (pE S).2.1 := eE
    have fD : S.drop (pC S).2.1 = numbL ++ S.drop (pD S).1 := eD
    have fC : S.drop (pB S).1 = Lib.itoa (parsedE S).conn ++ S.drop (pC S).2.1 := eC
    have fB : S.drop (pA S).1 = conL ++ S.drop (pB S).1 := eB
    have fA : S.drop 0 = xa ++ S.drop (pA S).1 := eA
    rw [fA, fB, fC, fD, fE, fF, fG, fH, fI, fJ, fK, fL, fM, fN, fO]
  · unfold rightE
    rw [nA, nI, i1, a1, show (parsedE S).tgt.all tgtB = true from k1, decide_eq_true (show 1 ≤ xi.length ∧ xi.length ≤ 24 from ⟨i2, i3⟩), decide_eq_true (show 1 ≤ xa.length ∧ xa.length ≤ 64 from ⟨a2, a3⟩),
      decide_eq_true (show 1 ≤ (parsedE S).tgt.length ∧ (parsedE S).tgt.length ≤ 65536 from ⟨k2, k3⟩),
      decide_eq_true (show 0 ≤ (parsedE S).conn ∧ 0 ≤ (parsedE S).numb ∧ 0 ≤ (parsedE S).byts ∧ 0 ≤ (parsedE S).tick ∧ 100 ≤ (parsedE S).stat ∧ (parsedE S).stat ≤ 599 from ⟨c1, e1, o1, g1, m1, m2⟩)]
    rfl
end Go.Proofs.YtfgaiopkclogmaaGreatDoor
namespace Go.Proofs.YtfgaiopkclogmaaGreatDoor
open Go Go.RowKit

theorem litS_fwd (S : List UInt8) : ∀ (t r : List UInt8) (n : Nat), S.drop n = t ++ r → litS S t (n, false) = (n + t.length, false) ∧ S.drop (n + t.length) = r
  | [], r, n, h => ⟨rfl, h⟩
  | c :: t, r, n, h => by
    have hlt : n < S.length := by
      have := congrArg List.length h
      rw [List.length_drop, List.length_append, List.length_cons] at this
      omega
    rw [List.drop_eq_getElem_cons hlt, List.cons_append] at h
    injection h with h1 h2
    obtain ⟨e1, e2⟩ := litS_fwd S t r (n + 1) h2
    rw [litS, if_neg nf, if_pos (by rw [List.getElem?_eq_getElem hlt, h1])]
    rw [List.length_cons, show n + (t.length + 1) = n + 1 + t.length by omega]
    exact ⟨e1, e2⟩
def stopsAt (may : UInt8 → Bool) (r : List UInt8) : Prop := ∀ c r', r = c :: r' → may c = false
theorem runK_fwd (may : UInt8 → Bool) : ∀ (x r : List UInt8) (m : Nat), x.all may = true → x.length ≤ m → stopsAt may r → runK may m (x ++ r) = x.length
  | [], [], 0, _, _, _ => rfl
  | [], [], _ + 1, _, _, _ => rfl
  | [], c :: r, 0, _, _, _ => rfl
  | [], c :: r, m + 1, _, _, hs => by
    rw [List.nil_append, runK, if_neg (by rw [hs c r rfl]; decide)]; rfl
  | c :: x, r, 0, _, hl, _ => by simp at hl
  | c :: x, r, m + 1, ha, hl, hs => by
    rw [List.all_cons, Bool.and_eq_true] at ha
    rw [List.cons_append, runK, if_pos ha.1, runK_fwd may x r m ha.2 (by simp at hl; omega) hs, List.length_cons]
theorem runS_fwd {S : List UInt8} {may : UInt8 → Bool} {x r : List UInt8} {mx n : Nat} (h : S.drop n = x ++ r) (ha : x.all may = true) (h1 : 1 ≤ x.length) (h2 : x.length ≤ mx) (hs : stopsAt may r) :
    runS S may mx (n, false) = (n + x.length, false) ∧ S.drop (n + x.length) = r := by
  unfold runS
  rw [if_neg nf]
  rw [show S.drop (n, false).1 = x ++ r from h, runK_fwd may x r mx ha h2 hs, decide_eq_false (by omega)]
  refine ⟨rfl, ?_⟩
  rw [← List.drop_drop, h, List.drop_left]
theorem fold_ge : ∀ (d : List UInt8) (v : Int), d.all isDig = true → 0 ≤ v → v ≤ d.foldl (fun n c => 10 * n + dg c) v
  | [], v, _, _ => Int.le_refl _
  | c :: d, v, ha, h0 => by
    rw [List.all_cons, Bool.and_eq_true] at ha
    have hb := dg_bd ha.1
    have := fold_ge d (10 * v + dg c) ha.2 (by omega)
    rw [List.foldl_cons]
    omega
theorem numK_fwd : ∀ (d r : List UInt8) (v : Int) (k : Nat), d.all isDig = true → 0 ≤ v → d.foldl (fun n c => 10 * n + dg c) v ≤ mostI → (0 < k → v = 0 → d = []) → (k = 0 → v = 0 → d.length ≤ 1 ∨ d.head? ≠ some 48) → stopsAt isDig r →
    numK (d ++ r) v k = (d.foldl (fun n c => 10 * n + dg c) v, k + d.length, decide (k + d.length = 0))
  | [], [], v, k, _, _, _, _, _, _ => rfl
  | [], c :: r, v, k, _, _, _, _, _, hs => by
    rw [List.nil_append, numK, if_neg (by rw [hs c r rfl]; decide)]; rfl
  | c :: d, r, v, k, ha, h0, hm, hz, hh, hs => by
    rw [List.all_cons, Bool.and_eq_true] at ha
    have hb := dg_bd ha.1
    rw [List.foldl_cons] at hm ⊢
    have hg := fold_ge d (10 * v + dg c) ha.2 (by omega)
    have hno : ¬ ((0 < k ∧ v = 0) ∨ (mostI - dg c) / 10 < v) := by
      rintro (⟨h1, h2⟩ | h1)
      · exact absurd (hz h1 h2) (by simp)
      · unfold mostI at h1 hm; omega
    have ih := numK_fwd d r (10 * v + dg c) (k + 1) ha.2 (by omega) hm ?_ (fun h => by omega) hs
    · rw [List.cons_append, numK, if_pos ha.1, if_neg hno, ih, List.length_cons, show k + 1 + d.length = k + (d.length + 1) by omega]
    · intro _ hv
      have hv0 : v = 0 := by omega
      have hc0 : dg c = 0 := by omega
      have hk : k = 0 := by
        by_cases h : k = 0
        · exact h
        · exact absurd (hz (by omega) hv0) (by simp)
      rcases hh hk hv0 with h | h
      · rw [List.length_cons] at h
        exact List.eq_nil_of_length_eq_zero (by omega)
      · exfalso
        apply h
        rw [List.head?_cons]
        congr 1
        apply UInt8.toNat_inj.1
        unfold dg at hc0
        show c.toNat = 48
        omega
theorem dec_head : ∀ (u : Nat), u ≠ 0 → (Lib.decDigits u).head? ≠ some 48 := by
  intro u
  induction u using Nat.strongRecOn with
  | ind u ih =>
    intro h0
    rw [decDigits_step]
    by_cases h : u / 10 = 0
    · rw [if_pos h, List.nil_append, List.head?_cons]
      intro e
      injection e with e
      have := digC_toNat u
      rw [e] at this
      have : ((48 : UInt8).toNat : Int) = 48 := rfl
      omega
    · rw [if_neg h]
      have hi := ih (u / 10) (by omega) h
      have hne := (val_dec (u / 10)).2.2
      cases hd : Lib.decDigits (u / 10) with
      | nil => exact absurd hd hne
      | cons c r => rw [hd] at hi; exact hi
theorem itoa_dig {v : Int} (h : 0 ≤ v) : (Lib.itoa v).all isDig = true ∧ valOf (Lib.itoa v) = v ∧ Lib.itoa v ≠ [] ∧ ((Lib.itoa v).length ≤ 1 ∨ (Lib.itoa v).head? ≠ some 48) := by
  have e : Lib.itoa v = Lib.decDigits v.toNat := by
    have := itoa_nat v.toNat
    rw [show ((v.toNat : Nat) : Int) = v by omega] at this
    exact this
  obtain ⟨h1, h2, h3⟩ := val_dec v.toNat
  rw [e]
  refine ⟨h2, by rw [h1]; omega, h3, ?_⟩
  by_cases h0 : v.toNat = 0
  · left
    rw [h0, decDigits_step, if_pos (by decide)]
    exact Nat.le_refl _
  · exact Or.inr (dec_head _ h0)
theorem numS_fwd {S r : List UInt8} {v : Int} {n : Nat} (h : S.drop n = Lib.itoa v ++ r) (h0 : 0 ≤ v) (h1 : v ≤ mostI) (hs : stopsAt isDig r) :
    numS S (n, false) = (v, (n + (Lib.itoa v).length, false)) ∧ S.drop (n + (Lib.itoa v).length) = r := by
  obtain ⟨d1, d2, d3, d4⟩ := itoa_dig h0
  have hl := List.length_pos_iff.2 d3
  have hf : (Lib.itoa v).foldl (fun n c => 10 * n + dg c) 0 = v := d2
  have hk := numK_fwd (Lib.itoa v) r 0 0 d1 (Int.le_refl _) (by rw [hf]; exact h1) (fun h => by omega) (fun _ _ => d4) hs
  unfold numS
  rw [if_neg nf]
  rw [show S.drop (n, false).1 = Lib.itoa v ++ r from h, hk, hf, Nat.zero_add, decide_eq_false (by omega)]
  refine ⟨rfl, ?_⟩
  rw [← List.drop_drop, h, List.drop_left]
theorem tgtK_fwd : ∀ (y r out : List UInt8) (k : Nat), y.all tgtB = true → out.length + y.length ≤ 65536 → tgtK (esc y ++ 34 :: r) out k = (out ++ y, k + (esc y).length, false)
  | [], r, out, k, _, _ => by
    show tgtK (34 :: r) out k = _
    unfold tgtK
    rw [if_pos rfl, List.append_nil]; rfl
  | c :: y, r, out, k, ha, hl => by
    rw [List.all_cons, Bool.and_eq_true] at ha
    rw [List.length_cons] at hl
    have ih : ∀ k, tgtK (esc y ++ 34 :: r) (out ++ [c]) k = (out ++ [c] ++ y, k + (esc y).length, false) := fun k => tgtK_fwd y r (out ++ [c]) k ha.2 (by rw [List.length_append, List.length_singleton]; omega)
    have hno : ∀ b : UInt8, tgtB b = true → ¬ (tgtB b = false ∨ out.length = 65536) := by
      rintro b hb (h | h)
      · rw [hb] at h; cases h
      · omega
    rw [esc_cons]
    by_cases hc : c = 34 ∨ c = 92
    · rw [if_pos hc]
      show tgtK (92 :: c :: (esc y ++ 34 :: r)) out k = _
      unfold tgtK
      rw [if_neg (by decide), if_neg (hno 92 (by decide)), if_pos rfl]
      simp only []
      rw [if_neg (fun h => by rcases hc with e | e; exact h.1 e; exact h.2 e), ih]
      rw [List.append_assoc, List.length_append]
      show (out ++ ([c] ++ y), k + 2 + (esc y).length, false) = (out ++ c :: y, k + (2 + (esc y).length), false)
      rw [Nat.add_assoc]; rfl
    · rw [if_neg hc]
      show tgtK (c :: (esc y ++ 34 :: r)) out k = _
      unfold tgtK
      rw [if_neg (fun e => hc (Or.inl e)), if_neg (hno c ha.1), if_neg (fun e => hc (Or.inr e)), ih]
      rw [List.append_assoc, List.length_append]
      show (out ++ ([c] ++ y), k + 1 + (esc y).length, false) = (out ++ c :: y, k + (1 + (esc y).length), false)
      rw [Nat.add_assoc]; rfl
theorem tgtS_fwd {S r t : List UInt8} {n : Nat} (h : S.drop n = quoteL t ++ r) (ha : t.all tgtB = true) (h1 : 1 ≤ t.length) (h2 : t.length ≤ 65536) :
    tgtS S (n, false) = (t, (n + (quoteL t).length, false)) ∧ S.drop (n + (quoteL t).length) = r := by
  have e : S.drop n = [34] ++ (esc t ++ 34 :: r) := by rw [h]; unfold quoteL; simp
  obtain ⟨e1, e2⟩ := litS_fwd S _ _ _ e
  have hk := tgtK_fwd t r [] 0 ha (by simp; omega)
  have e3 : S.drop (n + [(34 : UInt8)].length + (esc t).length) = [34] ++ r := by rw [← List.drop_drop, e2, List.drop_left]; rfl
  obtain ⟨e4, e5⟩ := litS_fwd S _ _ _ e3
  have hlen : n + (quoteL t).length = n + [(34 : UInt8)].length + (esc t).length + [(34 : UInt8)].length := by unfold quoteL; simp; omega
  have hne : t ≠ [] := List.length_pos_iff.1 h1
  constructor
  · unfold tgtS
    rw [e1]
    simp only []
    rw [if_neg (by decide), e2, hk]
    simp only [List.nil_append, Nat.zero_add]
    rw [decide_eq_false hne, Bool.or_false, e4, hlen]
  · rw [hlen]; exact e5
theorem stS_fwd {S r : List UInt8} {v : Int} {n : Nat} (h : S.drop n = Lib.itoa v ++ r) (h0 : 100 ≤ v) (h1 : v ≤ 599) : stS S (n, false) = (v, (n + (Lib.itoa v).length, false)) ∧ S.drop (n + (Lib.itoa v).length) = r := by
  obtain ⟨d1, d2, d3, d4⟩ := itoa_dig (v := v) (by omega)
  have hlen : (Lib.itoa v).length = 3 := by
    have e : Lib.itoa v = Lib.decDigits v.toNat := by
      have := itoa_nat v.toNat
      rw [show ((v.toNat : Nat) : Int) = v by omega] at this
      exact this
    rw [e]
    exact dec_len 2 v.toNat (by show 100 ≤ _; omega) (by show _ < 1000; omega)
  refine ⟨?_, by rw [← List.drop_drop, h, List.drop_left]⟩
  obtain ⟨d, hd⟩ : ∃ d, Lib.itoa v = d := ⟨_, rfl⟩
  rw [hd] at d1 d2 hlen h ⊢
  match d, hlen, d1, d2, h with
  | [c1, c2, c3], _, d1, d2, h =>
    simp only [List.all_cons, List.all_nil, Bool.and_true, Bool.and_eq_true] at d1
    have b1 := dg_bd d1.1
    have b2 := dg_bd d1.2.1
    have b3 := dg_bd d1.2.2
    have ev : 10 * (10 * (10 * 0 + dg c1) + dg c2) + dg c3 = v := d2
    have hc1 : 49 ≤ c1.toNat ∧ c1.toNat ≤ 53 := by
      have : 1 ≤ dg c1 ∧ dg c1 ≤ 5 := by omega
      unfold dg at this
      omega
    unfold stS
    rw [if_neg nf]
    rw [show S.drop (n, false).1 = c1 :: c2 :: c3 :: r from h]
    have hk : stK 3 (c1 :: c2 :: c3 :: r) 0 0 = (v, 3, false) := by
      rw [stK, if_neg, stK, if_neg, stK, if_neg, stK]
      · rw [← ev]
      · rintro (h | ⟨h, _⟩)
        · rw [d1.2.2] at h; cases h
        · omega
      · rintro (h | ⟨h, _⟩)
        · rw [d1.2.1] at h; cases h
        · omega
      · rintro (h | ⟨_, h⟩)
        · rw [d1.1] at h; cases h
        · exact h hc1
    rw [hk]
    rfl
theorem stops_cons {may : UInt8 → Bool} {c : UInt8} {r : List UInt8} (h : may c = false) : stopsAt may (c :: r) := by
  intro b r' e
  injection e with e _
  rw [← e]; exact h
theorem stops_nil {may : UInt8 → Bool} : stopsAt may [] := fun _ _ e => by cases e
theorem rightE_facts {e : En} (h : rightE e = true) : (0 ≤ e.conn ∧ 0 ≤ e.numb ∧ 0 ≤ e.byts ∧ 0 ≤ e.tick ∧ 100 ≤ e.stat ∧ e.stat ≤ 599) ∧ (e.name.all nameB = true ∧ 1 ≤ e.name.length ∧ e.name.length ≤ 64) ∧ (e.meth.all signB = true ∧ 1 ≤ e.meth.length ∧ e.meth.length ≤ 24) ∧ (e.tgt.all tgtB = true ∧ 1 ≤ e.tgt.length ∧ e.tgt.length ≤ 65536) := by
  unfold rightE at h
  simp only [Bool.and_eq_true, decide_eq_true_eq] at h
  exact ⟨h.1, h.2.1, h.2.2.1, h.2.2.2⟩
/-- THE LAW: a right entry's line says that entry. -/
theorem parse_print {e : En} (h : rightE e = true) (hb : e.conn ≤ mostI ∧ e.numb ≤ mostI ∧ e.tick ≤ mostI ∧ e.byts ≤ mostI) :
    parsedE (printL e) = e ∧ (parseEnd (printL e)).2 = false ∧ (parseEnd (printL e)).1 = (printL e).length := by
  obtain ⟨⟨n1, n2, n3, n4, n5, n6⟩, ⟨a1, a2, a3⟩, ⟨i1, i2, i3⟩, ⟨k1, k2, k3⟩⟩ := rightE_facts h
  obtain ⟨S, hS⟩ : ∃ S, printL e = S := ⟨_, rfl⟩
  rw [hS]
  have e0 : S.drop 0 = printL e := hS.symm
  unfold printL at e0
  obtain ⟨fA, dA⟩ := runS_fwd (mx := 64) (may := nameB) e0 a1 a2 a3 (stops_cons (by decide))
  obtain ⟨fB, dB⟩ := litS_fwd S _ _ _ dA
  obtain ⟨fC, dC⟩ := numS_fwd dB n1 hb.1 (stops_cons (by decide))
  obtain ⟨fD, dD⟩ := litS_fwd S _ _ _ dC
  obtain ⟨fE, dE⟩ := numS_fwd dD n2 hb.2.1 (stops_cons (by decide))
  obtain ⟨fF, dF⟩ := litS_fwd S _ _ _ dE
  obtain ⟨fG, dG⟩ := numS_fwd dF n4 hb.2.2.1 (stops_cons (by decide))
  obtain ⟨fH, dH⟩ := litS_fwd S _ _ _ dG
  obtain ⟨fI, dI⟩ := runS_fwd (mx := 24) (may := signB) dH i1 i2 i3 (stops_cons (by decide))
  obtain ⟨fJ, dJ⟩ := litS_fwd S _ _ _ dI
  obtain ⟨fK, dK⟩ := tgtS_fwd dJ k1 k2 k3
  obtain ⟨fL, dL⟩ := litS_fwd S _ _ _ dK
  obtain ⟨fM, dM⟩ := stS_fwd dL n5 n6
  obtain ⟨fN, dN⟩ := litS_fwd S _ _ _ dM
  obtain ⟨fO, dO⟩ := numS_fwd (r := []) (by rw [List.append_nil]; exact dN) n3 hb.2.2.2 stops_nil
  have gA : pA S = _ := fA
  have gB : pB S = _ := (congrArg (litS S conL) gA).trans fB
  have gC : pC S = _ := (congrArg (numS S) gB).trans fC
  have gD : pD S = _ := (congrArg (fun (q : Int × St) => litS S numbL q.2) gC).trans fD
  have gE : pE S = _ := (congrArg (numS S) gD).trans fE
  have gF : pF S = _ := (congrArg (fun (q : Int × St) => litS S tickL q.2) gE).trans fF
  have gG : pG S = _ := (congrArg (numS S) gF).trans fG
  have gH : pH S = _ := (congrArg (fun (q : Int × St) => litS S [32] q.2) gG).trans fH
  have gI : pI S = _ := (congrArg (runS S signB 24) gH).trans fI
  have gJ : pJ S = _ := (congrArg (litS S [32]) gI).trans fJ
  have gK : pK S = _ := (congrArg (tgtS S) gJ).trans fK
  have gL : pL S = _ := (congrArg (fun (q : List UInt8 × St) => litS S [32] q.2) gK).trans fL
  have gM : pM S = _ := (congrArg (stS S) gL).trans fM
  have gN : pN S = _ := (congrArg (fun (q : Int × St) => litS S [32] q.2) gM).trans fN
  have gO : pO S = _ := (congrArg (numS S) gN).trans fO
  refine ⟨?_, ?_, ?_⟩
  · unfold parsedE
    rw [gA, gC, gE, gG, gH, gI, gK, gM, gO]
    have x1 : S.take (0 + e.name.length) = e.name := by
      rw [Nat.zero_add, show S = e.name ++ _ from e0, List.take_left]
    simp only []
    rw [x1, Nat.add_sub_cancel_left, dH, List.take_left]
  · unfold parseEnd; rw [gO]
  · unfold parseEnd
    rw [gO]
    simp only []
    have hl := congrArg List.length dO
    have hle : (pO S).2.1 ≤ S.length := by
      have q : S.drop (pN S).1 = Lib.itoa e.byts ++ [] := by rw [gN, List.append_nil]; exact dN
      have := congrArg List.length q
      rw [List.length_drop, List.append_nil] at this
      rw [gO]
      simp only []
      have hp := List.length_pos_iff.2 (itoa_dig n3).2.2.1
      rw [gN] at this
      simp only [] at this
      omega
    rw [gO] at hle
    simp only [] at hle
    rw [List.length_drop, List.length_nil] at hl
    omega
end Go.Proofs.YtfgaiopkclogmaaGreatDoor
