/- An insertion sort over an array is one over a list: plain. A jar of cookies: plain. Contracts of cookie: numbers, hosts that belong, paths, default paths. Program's. -/
import Derived.Sort.WalkA
import Derived.Test.YtkenianfpfamcaaGreatDoorMg
import Derived.Lib.LastIndexByte
namespace Go.Proofs.YtkenianfpfamcaaGreatDoor
open Go Go.Sort
variable {α : Type} [Inhabited α]

/-- put in from behind, past those that come after it; the list stands in reverse -/
def insRev (lt : α → α → Bool) (k : α) : List α → List α
  | [] => [k]
  | x :: r => if lt k x = true then x :: insRev lt k r else k :: x :: r
def insAll (lt : α → α → Bool) (l : List α) : List α := (l.foldl (fun acc k => insRev lt k acc) []).reverse
omit [Inhabited α] in
theorem insRev_length (lt : α → α → Bool) (k : α) : ∀ r : List α, (insRev lt k r).length = r.length + 1
  | [] => rfl
  | x :: r => by
    rw [insRev]
    split
    · rw [List.length_cons, insRev_length lt k r, List.length_cons]
    · rfl
omit [Inhabited α] in
theorem insRev_perm (lt : α → α → Bool) (k : α) : ∀ r : List α, (insRev lt k r).Perm (k :: r)
  | [] => List.Perm.refl _
  | x :: r => by
    rw [insRev]
    split
    · exact (List.Perm.cons x (insRev_perm lt k r)).trans (List.Perm.swap k x r)
    · exact List.Perm.refl _
theorem get_mid (A R : List α) (k : α) : (A ++ k :: R).toArray[A.length]! = k := by
  simp
theorem swp_mid (A R : List α) (x k : α) : swp (A ++ x :: k :: R).toArray (A.length + 1) A.length = (A ++ k :: x :: R).toArray := by
  have e1 : (A ++ x :: k :: R).toArray[A.length]! = x := get_mid A (k :: R) x
  have e2 : (A ++ x :: k :: R).toArray[A.length + 1]! = k := by
    simp
  unfold swp
  rw [e1, e2]
  apply Array.toList_inj.1
  simp
omit [Inhabited α] in
theorem insAll_perm (lt : α → α → Bool) (l : List α) : (insAll lt l).Perm l := by
  unfold insAll
  have h : ∀ (l acc : List α), (l.foldl (fun acc k => insRev lt k acc) acc).Perm (l ++ acc) := by
    intro l
    induction l with
    | nil => intro acc; exact List.Perm.refl _
    | cons k l ih =>
      intro acc
      refine (ih _).trans ?_
      refine (List.Perm.append_left l (insRev_perm lt k acc)).trans ?_
      exact List.perm_middle
  have := h l []
  rw [List.append_nil] at this
  exact (List.reverse_perm _).trans this
end Go.Proofs.YtkenianfpfamcaaGreatDoor
namespace Go.Proofs.YtkenianfpfamcaaGreatDoor
open Go Go.RowKit

def bracket (l : List UInt8) : Bool := decide (l.head? = some 91)
def hostB (c : UInt8) : Bool := decide (c.toNat = 46 ∨ (48 ≤ c.toNat ∧ c.toNat ≤ 57))
def numberC (l : List UInt8) : Bool := bracket l || l.all hostB
def belongsC (host dom : List UInt8) : Bool := decide (host = dom) || (!numberC host && (46 :: dom).isSuffixOf host)
def underC (path c : List UInt8) : Bool := c.isPrefixOf path && (decide (path.length = c.length) || (decide (c.getLast? = some 47) || decide ((path.drop c.length).head? = some 47)))
/-- what stands ahead of the last such byte -/
def dirC (l : List UInt8) : List UInt8 := ((l.reverse.dropWhile fun c => decide (c ≠ 47)).drop 1).reverse
def defPathC (l : List UInt8) : List UInt8 := if l.head? = some 47 ∧ dirC l ≠ [] then dirC l else [47]

structure Kp where
  c : SetC
  dom : List UInt8
  path : List UInt8
  till : Int
  ends : Bool
  deriving DecidableEq
def Kp.key (k : Kp) : List UInt8 × List UInt8 × List UInt8 := (k.c.name, k.dom, k.path)
def Kp.over (k : Kp) (now : Int) : Bool := k.ends && decide (k.till ≤ now)
def kpOf (c : SetC) (host path : List UInt8) (now : Int) : Kp :=
  ⟨c, if c.domain = [] then host else c.domain, if c.path = [] then defPathC path else c.path,
   if c.hasMax = true then now + c.maxAge else if c.hasExp = true then c.expires else 0, c.hasMax || c.hasExp⟩
def sweepC (l : List Kp) (now : Int) : List Kp := l.filter fun k => !k.over now
def trimJ (most : Nat) (now : Int) (l : List Kp) : List Kp :=
  let m := if most < l.length then sweepC l now else l
  if most < m.length then m.drop (m.length - most) else m
def unsafe1 (c : SetC) (secure : Bool) : Bool := (!secure && (c.secure || decide (c.same = 3))) || (decide (c.same = 3) && !c.secure)
def wasC (l : List Kp) (k : Kp) : Option Kp := l.find? fun y => decide (y.key = k.key)
/-- what goes wrong when a cookie is set -/
def failC (l : List Kp) (c : SetC) (host path : List UInt8) (secure : Bool) (now : Int) : Int :=
  if isMom now = false then 1 else if wrongC c ≠ 0 then wrongC c
  else if c.domain ≠ [] ∧ belongsC host c.domain = false then 162
  else if unsafe1 c secure = true then 163
  else match wasC l (kpOf c host path now) with
    | none => 0
    | some y => if secure = false ∧ y.c.secure = true ∧ y.over now = false then 163 else 0
def putC (l : List Kp) (k : Kp) : List Kp := match wasC l k with
  | none => l ++ [k]
  | some _ => l.map fun y => if y.key = k.key then k else y
def setJ (most : Nat) (l : List Kp) (c : SetC) (host path : List UInt8) (secure : Bool) (now : Int) : List Kp :=
  if failC l c host path secure now = 0 then trimJ most now (putC l (kpOf c host path now)) else l
def hereC (host path : List UInt8) (secure : Bool) (now : Int) (k : Kp) : Bool :=
  ((decide (k.dom = host) || (decide (k.c.domain ≠ []) && belongsC host k.dom)) && (underC path k.path && (secure || !k.c.secure))) && !k.over now
/-- a longer path comes first -/
def ltK (a b : Kp) : Bool := decide (b.path.length < a.path.length)
instance : Inhabited SetC := ⟨⟨[], [], [], [], 0, false, 0, false, false, false, 0⟩⟩
instance : Inhabited Kp := ⟨⟨default, [], [], 0, false⟩⟩
def getJ (l : List Kp) (host path : List UInt8) (secure : Bool) (now : Int) : List Ck := (insAll ltK (l.filter (hereC host path secure now))).map fun k => (k.c.name, k.c.value)
def allJ (l : List Kp) : List SetC := l.map fun k => { k.c with path := k.path }

theorem put_length (l : List Kp) (k : Kp) : (putC l k).length ≤ l.length + 1 := by
  unfold putC
  split <;> simp
theorem sweep_length (l : List Kp) (now : Int) : (sweepC l now).length ≤ l.length := List.length_filter_le _ _
theorem trim_length (most : Nat) (now : Int) (l : List Kp) : (trimJ most now l).length ≤ most := by
  unfold trimJ
  obtain ⟨m, hm⟩ : ∃ m, m = (if most < l.length then sweepC l now else l) := ⟨_, rfl⟩
  simp only
  rw [← hm]
  by_cases h : most < m.length
  · rw [if_pos h, List.length_drop]; omega
  · rw [if_neg h]; omega
end Go.Proofs.YtkenianfpfamcaaGreatDoor
namespace Go.Proofs.YtkenianfpfamcaaGreatDoor
open Go Go.RowKit
set_option maxHeartbeats 4000000

theorem drop_nil (p : UInt8 → Bool) : ∀ l : List UInt8, l.dropWhile p = [] ↔ ∀ x ∈ l, p x = true
  | [] => ⟨(fun _ _ h => by cases h), (fun _ => rfl)⟩
  | c :: l => by
    have ih := drop_nil p l
    rw [List.dropWhile_cons]
    by_cases h : p c = true
    · rw [if_pos h, ih]
      constructor
      · intro g x hx
        rcases List.mem_cons.1 hx with rfl | hx
        · exact h
        · exact g x hx
      · exact fun g x hx => g x (List.mem_cons_of_mem _ hx)
    · rw [if_neg h]
      exact ⟨(fun g => by cases g), fun g => absurd (g c (List.mem_cons_self ..)) h⟩
theorem trim_all (p : UInt8 → Bool) (l : List UInt8) : decide ((l.reverse.dropWhile p).reverse.dropWhile p = []) = l.all p := by
  rw [Bool.eq_iff_iff, decide_eq_true_eq, List.all_eq_true, drop_nil]
  constructor
  · intro h x hx
    have h2 : l.reverse.dropWhile p = [] := by
      cases hd : l.reverse.dropWhile p with
      | nil => rfl
      | cons y r =>
        have hy : p y = true := h y (by rw [hd]; simp)
        have hn := List.head?_dropWhile_not p l.reverse
        rw [hd] at hn
        simp only [List.head?_cons] at hn
        rw [hy] at hn
        cases hn
    rw [drop_nil] at h2
    exact h2 x (List.mem_reverse.2 hx)
  · intro h x hx
    rw [List.mem_reverse] at hx
    exact h x (List.mem_reverse.1 ((List.dropWhile_sublist p).subset hx))
theorem numset_hb : ∀ p : Fin 256, ([48, 49, 50, 51, 52, 53, 54, 55, 56, 57, 46] : List UInt8).contains (UInt8.ofNat p.val) = hostB (UInt8.ofNat p.val) := by decide +kernel
theorem numset_eq (c : UInt8) : ([48, 49, 50, 51, 52, 53, 54, 55, 56, 57, 46] : List UInt8).contains c = hostB c := by
  have := numset_hb ⟨c.toNat, c.toNat_lt⟩
  rwa [show UInt8.ofNat (Fin.val (⟨c.toNat, c.toNat_lt⟩ : Fin 256)) = c from UInt8.ofNat_toNat] at this
theorem numtrim_any (s : ByteArray) (w : World) (hs : s.size ≤ maxLen) :
    Calls Tryz.prog 43 #[.string s, .string ⟨#[48, 49, 50, 51, 52, 53, 54, 55, 56, 57, 46]⟩] w fun e w' => (∃ t : ByteArray, e = .returned (.string t) ∧ t.toList.isEmpty = (L s).all hostB) ∧ Below w.heap.size w w' := by
  refine (Any.strings_Trim_laid Tryz.lays160 (by kernel_rfl) s ⟨#[48, 49, 50, 51, 52, 53, 54, 55, 56, 57, 46]⟩ w hs (by decide) (ascii_of_all (by decide))).mono ?_
  rintro e w' ⟨rfl, hb⟩
  refine ⟨⟨_, rfl, ?_⟩, hb⟩
  rw [str_empty, ← trim_all]
  have e : ∀ b : UInt8, (⟨#[48, 49, 50, 51, 52, 53, 54, 55, 56, 57, 46]⟩ : ByteArray).data.toList.contains b = hostB b := numset_eq
  unfold Lib.trimS Lib.trimLeftS Lib.trimRightS
  simp only [e, L]
  rfl
set_option maxRecDepth 100000 in
theorem isnumber_any (s : ByteArray) (w : World) (hs : s.size ≤ maxLen) : Calls Tryz.prog 121 #[.string s] w fun e w' => e = .returned (.bool (numberC (L s))) ∧ Below w.heap.size w w' := by
  have HX : Hid (∀ wx : World, Calls Tryz.prog 95 #[.string s, .string ⟨#[91]⟩] wx fun e w' => e = .returned (.bool (bracket (L s))) ∧ wx = w') := by
    intro wx
    refine (Tryz.strings_HasPrefix s ⟨#[91]⟩ wx).mono ?_
    rintro e w' ⟨rfl, rfl⟩
    exact ⟨ret_bool (hasPrefix_one 91 (L s)), rfl⟩
  have HN := Lib.hid (fun wx => numtrim_any s wx hs)
  have hR : Hid (numberC (L s) = (bracket (L s) || (L s).all hostB)) := rfl
  rw [hR.out]
  obtain ⟨A, hA⟩ := name_it (bracket (L s))
  obtain ⟨B, hB⟩ := name_it ((L s).all hostB)
  rw [hA.out] at HX
  rw [hA.out, hB.out]
  simp only [hB.out] at HN
  clear hR hA hB
  cases A
  · go_enter Tryz.func121, Tryz.ntmps121
    go_wp2_with fail
    refine (HX.out _).mono ?_; rintro e w' ⟨rfl, rfl⟩
    go_wp2_with fail
    refine (HN.out _).mono ?_; rintro e w1 ⟨⟨t, rfl, ht⟩, hb⟩
    go_wp2_with fail
    go_ret
    exact ⟨ret_bool (by first | exact ht | (rw [Bool.false_or, ← ht]) | (simp at *; exact ht)), hb⟩
  · go_enter Tryz.func121, Tryz.ntmps121
    go_wp2_with fail
    refine (HX.out _).mono ?_; rintro e w' ⟨rfl, rfl⟩
    go_wp2_with fail
    go_ret
    exact ⟨rfl, Below.refl _ _⟩
set_option maxRecDepth 100000 in
theorem belongs_any (s t : ByteArray) (w : World) (hs : s.size ≤ 1073741824) (ht : t.size ≤ 1073741824) : Calls Tryz.prog 71 #[.string s, .string t] w fun e w' => e = .returned (.bool (belongsC (L s) (L t))) ∧ Below w.heap.size w w' := by
  have HX : Hid (∀ wx : World, Calls Tryz.prog 122 #[.string s, .string ((⟨#[46]⟩ : ByteArray) ++ t)] wx fun e w' => e = .returned (.bool ((46 :: L t).isSuffixOf (L s))) ∧ wx = w') := by
    intro wx
    refine (Tryz.strings_HasSuffix s ((⟨#[46]⟩ : ByteArray) ++ t) wx (by omega)).mono ?_
    rintro e w' ⟨rfl, rfl⟩
    refine ⟨ret_bool ?_, rfl⟩
    have e1 : ((⟨#[46]⟩ : ByteArray) ++ t).data.toList = 46 :: L t := by
      have := bs_append [46] (L t)
      have h2 : L (bs [46] ++ bs (L t)) = [46] ++ L t := by rw [this, L_bs]
      exact h2
    unfold Lib.hasSuffix
    rw [e1]; rfl
  have HN := Lib.hid (fun wx => isnumber_any s wx (by unfold maxLen; omega))
  have hR : Hid (belongsC (L s) (L t) = (decide (L s = L t) || (!numberC (L s) && (46 :: L t).isSuffixOf (L s)))) := rfl
  have hq := str_eq s t
  rw [hR.out]
  obtain ⟨A, hA⟩ := name_it (decide (L s = L t))
  obtain ⟨B, hB⟩ := name_it (numberC (L s))
  obtain ⟨C, hC⟩ := name_it ((46 :: L t).isSuffixOf (L s))
  rw [hA.out] at hq
  rw [hC.out] at HX
  rw [hA.out, hB.out, hC.out]
  simp only [hB.out] at HN
  clear hR hA hB hC
  cases A
  · cases B
    all_goals
      go_enter Tryz.func71, Tryz.ntmps71
      go_wp2_with fail
      refine (HN.out _).mono ?_; rintro e w1 ⟨rfl, hb⟩
      go_wp2_with fail
      (try (refine (HX.out _).mono ?_; rintro e w2 ⟨rfl, rfl⟩))
      (try go_wp2_with fail)
      go_ret
      exact ⟨rfl, hb⟩
  · go_enter Tryz.func71, Tryz.ntmps71
    go_wp2_with fail
    go_ret
    exact ⟨rfl, Below.refl _ _⟩
theorem hasSuffix_one (c : UInt8) (l : List UInt8) : Lib.hasSuffix l [c] = decide (l.getLast? = some c) := by
  unfold Lib.hasSuffix
  rcases list_snoc l with rfl | ⟨m, d, rfl⟩
  · rfl
  · rw [List.getLast?_concat, Bool.eq_iff_iff, List.isSuffixOf_iff_suffix, decide_eq_true_eq]
    constructor
    · rintro ⟨t, ht⟩
      have := (List.append_inj' ht rfl).2
      injection this with h
      rw [h]
    · intro h
      injection h with h
      exact ⟨m, by rw [h]⟩
set_option maxRecDepth 100000 in
theorem under_any (p c : ByteArray) (w : World) (hp : p.size ≤ 1073741824) (hc : c.size ≤ 1073741824) : Calls Tryz.prog 72 #[.string p, .string c] w fun e w' => e = .returned (.bool (underC (L p) (L c))) ∧ w = w' := by
  have HC : Hid (∀ wx : World, Calls Tryz.prog 123 #[.string p, .string c] wx fun e w' => e = .returned (.tuple #[.string (bs (Lib.trimPrefix (L p) (L c))), .bool ((L c).isPrefixOf (L p))]) ∧ wx = w') := by
    intro wx
    refine (Tryz.strings_CutPrefix p c wx).mono ?_
    rintro e w' ⟨rfl, rfl⟩
    exact ⟨rfl, rfl⟩
  have HX : Hid (∀ wx : World, Calls Tryz.prog 122 #[.string c, .string ⟨#[47]⟩] wx fun e w' => e = .returned (.bool (decide ((L c).getLast? = some 47))) ∧ wx = w') := by
    intro wx
    refine (Tryz.strings_HasSuffix c ⟨#[47]⟩ wx (by omega)).mono ?_
    rintro e w' ⟨rfl, rfl⟩
    exact ⟨ret_bool (hasSuffix_one 47 (L c)), rfl⟩
  have hR : Hid (underC (L p) (L c) = ((L c).isPrefixOf (L p) && (decide ((L p).length = (L c).length) || (decide ((L c).getLast? = some 47) || decide (((L p).drop (L c).length).head? = some 47))))) := rfl
  rw [hR.out]
  clear hR
  cases hpre : (L c).isPrefixOf (L p) with
  | false =>
    rw [hpre] at HC
    clear hpre HX
    go_enter Tryz.func72, Tryz.ntmps72
    go_wp2_with fail
    refine (HC.out _).mono ?_; rintro e w' ⟨rfl, rfl⟩
    go_wp2_with fail
    go_ret
    exact ⟨rfl, rfl⟩
  | true =>
    have ht : Lib.trimPrefix (L p) (L c) = (L p).drop (L c).length := by
      unfold Lib.trimPrefix Lib.hasPrefix
      rw [if_pos hpre]
    have hle : (L c).length ≤ (L p).length := (List.isPrefixOf_iff_prefix.1 hpre).length_le
    rw [hpre, ht] at HC
    obtain ⟨r, hr⟩ := name_it ((L p).drop (L c).length)
    have hrl : r.length = (L p).length - (L c).length := by rw [← hr.out, List.length_drop]
    rw [hr.out] at HC ⊢
    have hz : decide ((L p).length = (L c).length) = decide (r = []) := by
      rw [Bool.eq_iff_iff, decide_eq_true_eq, decide_eq_true_eq, ← List.length_eq_zero_iff]
      omega
    rw [hz]
    have hrs : r.length ≤ 1073741824 := by rw [hrl, L_length]; omega
    obtain ⟨G, hG⟩ := name_it (decide ((L c).getLast? = some 47))
    rw [hG.out] at HX ⊢
    clear hz hrl hr hle ht hpre hG
    cases r with
    | nil =>
      have e1 : (bs []).toList.isEmpty = true := bs_nil'
      go_enter Tryz.func72, Tryz.ntmps72
      go_wp2_with fail
      refine (HC.out _).mono ?_; rintro e w' ⟨rfl, rfl⟩
      go_wp2_with fail
      go_ret
      exact ⟨rfl, rfl⟩
    | cons d r =>
      have e1 : (bs (d :: r)).toList.isEmpty = false := bs_ne
      have e2 : 0 < (bs (d :: r)).size := bs_zero_size
      have e3 : Hid (decide ((d :: r).head? = some 47) = ((d.toNat : Int) == 47)) := by
        unfold Hid
        rw [Bool.eq_iff_iff]
        simp [← UInt8.toNat_inj]
        omega
      have e4 : (bs (d :: r))[0] = d := bs_get0
      rw [e3.out]
      have e5 : decide (d :: r = []) = false := rfl
      rw [e5]
      obtain ⟨X, hX⟩ := name_it (bs (d :: r))
      simp only [hX.out] at HC e1 e2 e4
      clear e3 e5
      cases G
      · go_enter Tryz.func72, Tryz.ntmps72
        go_wp2_with fail
        refine (HC.out _).mono ?_; rintro e w' ⟨rfl, rfl⟩
        go_wp2_with fail
        refine (HX.out _).mono ?_; rintro e w' ⟨rfl, rfl⟩
        go_wp2_with fail
        go_ret
        exact ⟨ret_bool (by simp []), rfl⟩
      · go_enter Tryz.func72, Tryz.ntmps72
        go_wp2_with fail
        refine (HC.out _).mono ?_; rintro e w' ⟨rfl, rfl⟩
        go_wp2_with fail
        refine (HX.out _).mono ?_; rintro e w' ⟨rfl, rfl⟩
        go_wp2_with fail
        go_ret
        exact ⟨rfl, rfl⟩
theorem dir_take {a b : List UInt8} (h : ∀ d ∈ b, d ≠ 47) : dirC (a ++ 47 :: b) = a := by
  unfold dirC
  have e : (a ++ 47 :: b).reverse = b.reverse ++ 47 :: a.reverse := by simp
  have hp : ∀ (x r : List UInt8), (∀ d ∈ x, d ≠ 47) → (x ++ 47 :: r).dropWhile (fun c => decide (c ≠ 47)) = 47 :: r := by
    intro x r hx
    induction x with
    | nil => rfl
    | cons d x ih =>
      show (d :: (x ++ 47 :: r)).dropWhile _ = _
      rw [List.dropWhile_cons, if_pos (decide_eq_true (hx d (List.mem_cons_self ..))), ih (fun e he => hx e (List.mem_cons_of_mem _ he))]
  rw [e, hp _ _ (fun d hd => h d (List.mem_reverse.1 hd))]
  simp
theorem last_slash (s : ByteArray) (h : (L s).head? = some 47) : ∃ i : Nat, i < s.size ∧ Lib.lastIndexByte s 47 = i ∧ (L s).take i = dirC (L s) := by
  have h0 : 0 < s.size := by
    rw [← L_length]
    cases hl : L s with
    | nil => rw [hl] at h; cases h
    | cons a r => simp
  have g0 : s.data[0]! = 47 := by
    have h1 : (L s).head? = some s[0] := by
      have := L_drop (s := s) (k := 0) h0
      rw [List.drop_zero] at this
      rw [this]; rfl
    rw [h1] at h
    injection h with h
    rw [← h]
    exact getElem!_pos s.data 0 h0
  rcases Lib.lastIndexByte_spec s 47 with ⟨_, hn⟩ | ⟨i, hi, he, hc, hn⟩
  · exact absurd (by rw [g0]; rfl) (hn 0 h0)
  · refine ⟨i, hi, he, ?_⟩
    have e1 : L s = (L s).take i ++ s[i] :: (L s).drop (i + 1) := by
      rw [← L_drop hi, List.take_append_drop]
    have e2 : s[i] = 47 := by
      have : s.data[i]! = s[i] := getElem!_pos s.data i hi
      rw [this] at hc
      exact UInt8.toNat_inj.1 (by show s[i].toNat = 47; omega)
    rw [e2] at e1
    have h3 : ∀ d ∈ (L s).drop (i + 1), d ≠ 47 := by
      intro d hd e
      obtain ⟨j, hj, rfl⟩ := List.getElem_of_mem hd
      rw [List.length_drop, L_length] at hj
      have := hn (i + 1 + j) (by omega) (by omega)
      apply this
      have e4 : s.data[i + 1 + j]! = s[i + 1 + j]'(by omega) := getElem!_pos s.data (i + 1 + j) (by show i + 1 + j < s.size; omega)
      rw [e4]
      rw [List.getElem_drop] at e
      have e5 : s[i + 1 + j]'(by omega) = 47 := e
      rw [e5]; rfl
    conv => rhs; rw [e1]
    rw [dir_take h3]
set_option maxRecDepth 100000 in
theorem defpath_any (s : ByteArray) (w : World) (hs : s.size ≤ 1073741824) : Calls Tryz.prog 67 #[.string s] w fun e w' => e = .returned (.string (bs (defPathC (L s)))) ∧ w = w' := by
  have HL : Hid (∀ wx : World, Calls Tryz.prog 118 #[.string s, .int .u8 47] wx fun e w' => e = .returned (.int .i64 (Lib.lastIndexByte s 47)) ∧ wx = w') := by
    intro wx
    refine (Tryz.strings_LastIndexByte s 47 (by omega) wx).mono ?_
    rintro e w' ⟨rfl, rfl⟩
    exact ⟨rfl, rfl⟩
  have HX : Hid (∀ wx : World, Calls Tryz.prog 95 #[.string s, .string ⟨#[47]⟩] wx fun e w' => e = .returned (.bool (decide ((L s).head? = some 47))) ∧ wx = w') := by
    intro wx
    refine (Tryz.strings_HasPrefix s ⟨#[47]⟩ wx).mono ?_
    rintro e w' ⟨rfl, rfl⟩
    exact ⟨ret_bool (hasPrefix_one 47 (L s)), rfl⟩
  by_cases hh : (L s).head? = some 47
  · obtain ⟨i, hi, he, ht⟩ := last_slash s hh
    rw [he] at HL
    rw [decide_eq_true hh] at HX
    have hR : defPathC (L s) = if i = 0 then [47] else (L s).take i := by
      unfold defPathC
      rw [← ht]
      by_cases h0 : i = 0
      · subst h0; simp
      · rw [if_neg h0, if_pos ⟨hh, fun e => by
          have := congrArg List.length e
          rw [List.length_take, L_length, List.length_nil] at this
          omega⟩]
    rw [hR]
    have hex : Hid (s.extract 0 i = bs ((L s).take i)) := extract_head s i
    clear hh he ht hR
    by_cases h0 : i = 0
    · subst h0
      rw [if_pos rfl]
      go_enter Tryz.func67, Tryz.ntmps67
      go_wp2_with fail
      refine (HL.out _).mono ?_; rintro e w' ⟨rfl, rfl⟩
      go_wp2_with fail
      refine (HX.out _).mono ?_; rintro e w' ⟨rfl, rfl⟩
      go_wp2_with fail
      go_ret
      exact ⟨rfl, rfl⟩
    · rw [if_neg h0]
      have hb : ((i : Int) == 0) = false := by simpa using h0
      go_enter Tryz.func67, Tryz.ntmps67
      go_wp2_with fail
      refine (HL.out _).mono ?_; rintro e w' ⟨rfl, rfl⟩
      go_wp2_with fail
      refine (HX.out _).mono ?_; rintro e w' ⟨rfl, rfl⟩
      go_wp2_with fail
      all_goals (try (exfalso; omega))
      go_ret
      exact ⟨ret_str (by simpa using hex.out), rfl⟩
  · rw [decide_eq_false hh] at HX
    have hR : defPathC (L s) = [47] := by
      unfold defPathC
      rw [if_neg (fun h => hh h.1)]
    rw [hR]
    obtain ⟨I, hI⟩ := name_it (Lib.lastIndexByte s 47)
    rw [hI.out] at HL
    clear hh hR hI
    go_enter Tryz.func67, Tryz.ntmps67
    go_wp2_with fail
    refine (HL.out _).mono ?_; rintro e w' ⟨rfl, rfl⟩
    go_wp2_with fail
    refine (HX.out _).mono ?_; rintro e w' ⟨rfl, rfl⟩
    go_wp2_with fail
    go_ret
    exact ⟨rfl, rfl⟩
end Go.Proofs.YtkenianfpfamcaaGreatDoor
