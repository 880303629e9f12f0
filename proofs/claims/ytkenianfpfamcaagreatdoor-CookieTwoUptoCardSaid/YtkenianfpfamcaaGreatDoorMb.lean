/- The lines of a ledger in plain Lean: what was read is what stands there. Contracts: is a text a boundary (program and document). The lines of a ledger in plain Lean: what a line says; a line that says an entry is that entry's line. Contracts of octet: blanks trimmed off a text (program and reference). What a cookie's text says, what cookies say that are sent: plain; printed and read. Contracts of cookie: bytes of values, values, paths, domains. Program's. Contracts of octet: signs of tokens, by the table (for any number of variables). Contract of cookie.right: may there be a cookie. Texts cut at a byte, in the library's words and in ours: plain. -/
import Derived.Test.YtkenianfpfamcaaGreatDoorMa
import Derived.BigQuiet
import Derived.Test.YtkenianfpfamcaaGreatDoorShelf
import Derived.Shelf.Strings.SlTrimAscii
import Derived.Lib.Join
import Derived.Lib.SplitLaws
import Derived.Lib.Strings
namespace Go.Proofs.YtkenianfpfamcaaGreatDoor
open Go Go.RowKit

end Go.Proofs.YtkenianfpfamcaaGreatDoor
namespace Go.Proofs.YtkenianfpfamcaaGreatDoor
open Go Go.RowKit
set_option maxHeartbeats 2000000

def isLet (c : UInt8) : Bool := decide ((65 ≤ c.toNat ∧ c.toNat ≤ 90) ∨ (97 ≤ c.toNat ∧ c.toNat ≤ 122))
theorem isletter_any (c : UInt8) (w : World) : Calls Tryz.prog 130 #[.int .u8 c.toNat] w fun e w' => e = .returned (.bool (isLet c)) ∧ w = w' := by
  obtain ⟨R, hR⟩ := name_it (isLet c)
  rw [hR.out]
  go_enter Tryz.func130, Tryz.ntmps130
  go_wp2
  all_goals go_ret
  all_goals exact ⟨ret_bool (by rw [← hR.out, Bool.eq_iff_iff]; simp [isLet]; omega), rfl⟩
end Go.Proofs.YtkenianfpfamcaaGreatDoor
namespace Go.Proofs.YtkenianfpfamcaaGreatDoor
open Go Go.RowKit

def nameB (c : UInt8) : Bool := (isLet c || isDig c) || (c == 45 || c == 95 || c == 46)
def signL : List UInt8 := [33, 35, 36, 37, 38, 39, 42, 43, 45, 46, 94, 95, 96, 124, 126]
def signB (c : UInt8) : Bool := (isDig c || isLet c) || signL.any (· == c)
def conL : List UInt8 := [32, 99, 111, 110, 110, 61]
def numbL : List UInt8 := [32, 110, 117, 109, 98, 101, 114, 61]
/-! What is read of a line, step by step. -/
def pA (S : List UInt8) : St := runS S nameB 64 (0, false)
def pB (S : List UInt8) : St := litS S conL (pA S)
def pC (S : List UInt8) : Int × St := numS S (pB S)
def pD (S : List UInt8) : St := litS S numbL (pC S).2
def pE (S : List UInt8) : Int × St := numS S (pD S)
end Go.Proofs.YtkenianfpfamcaaGreatDoor
namespace Go.Proofs.YtkenianfpfamcaaGreatDoor
open Go Go.RowKit
set_option maxHeartbeats 1000000

def isBl (c : UInt8) : Bool := decide (c.toNat = 32 ∨ c.toNat = 9)
def trimL (l : List UInt8) : List UInt8 := l.dropWhile isBl
def trimR (l : List UInt8) : List UInt8 := (l.reverse.dropWhile isBl).reverse
def trim (l : List UInt8) : List UInt8 := trimR (trimL l)
theorem trimR_snoc_bl (l : List UInt8) (c : UInt8) (h : isBl c = true) : trimR (l ++ [c]) = trimR l := by
  simp [trimR, h]
theorem trimR_snoc_no (l : List UInt8) (c : UInt8) (h : isBl c = false) : trimR (l ++ [c]) = l ++ [c] := by
  simp [trimR, h]
theorem trimL_cons_bl (l : List UInt8) (c : UInt8) (h : isBl c = true) : trimL (c :: l) = trimL l := by simp [trimL, h]
theorem trimL_cons_no (l : List UInt8) (c : UInt8) (h : isBl c = false) : trimL (c :: l) = c :: l := by simp [trimL, h]
theorem trimR_cons_no : ∀ (l : List UInt8) (c : UInt8), isBl c = false → trimR (c :: l) = c :: trimR l := by
  intro l c h
  refine snoc_ind (P := fun l => trimR (c :: l) = c :: trimR l) ?_ ?_ l
  · have : ([c] : List UInt8) = [] ++ [c] := rfl
    rw [this, trimR_snoc_no _ _ h]; simp [trimR]
  · intro l d ih
    cases hd : isBl d
    · rw [← List.cons_append, trimR_snoc_no _ _ hd, trimR_snoc_no _ _ hd]; rfl
    · rw [← List.cons_append, trimR_snoc_bl _ _ hd, trimR_snoc_bl _ _ hd, ih]
theorem trim_swap (l : List UInt8) : trimL (trimR l) = trimR (trimL l) := by
  induction l with
  | nil => rfl
  | cons c l ih =>
    cases hc : isBl c
    · rw [trimR_cons_no _ _ hc, trimL_cons_no _ _ hc, trimL_cons_no _ _ hc, trimR_cons_no _ _ hc]
    · rw [trimL_cons_bl _ _ hc, ← ih]
      -- the last of c :: l that is no blank
      by_cases hall : (l.all isBl) = true
      · have e1 : ∀ m : List UInt8, m.all isBl = true → trimR m = [] := by
          intro m hm
          refine (snoc_ind (P := fun m => m.all isBl = true → trimR m = []) ?_ ?_ m) hm
          · intro _; rfl
          · intro m d ih h
            simp only [List.all_append, Bool.and_eq_true, List.all_cons, List.all_nil, Bool.and_true] at h
            rw [trimR_snoc_bl _ _ h.2]; exact ih h.1
        rw [e1 (c :: l) (by simp [hc] at hall ⊢; exact hall), e1 l hall]
      · have e2 : ∀ m : List UInt8, ¬ (m.all isBl) = true → trimR (c :: m) = c :: trimR m := by
          intro m
          refine snoc_ind (P := fun m => ¬ (m.all isBl) = true → trimR (c :: m) = c :: trimR m) ?_ ?_ m
          · intro h; exact absurd rfl h
          · intro m d ih h
            cases hd : isBl d
            · rw [← List.cons_append, trimR_snoc_no _ _ hd, trimR_snoc_no _ _ hd]; rfl
            · rw [← List.cons_append, trimR_snoc_bl _ _ hd, trimR_snoc_bl _ _ hd]
              refine ih (fun h' => h ?_)
              simp only [List.all_append, h', hd, List.all_cons, List.all_nil, Bool.and_true]
        rw [e2 l hall, trimL_cons_bl _ _ hc]
theorem dropWhile_le (p : UInt8 → Bool) (l : List UInt8) : (l.dropWhile p).length ≤ l.length := by
  induction l with
  | nil => simp
  | cons c l ih => rw [List.dropWhile_cons]; split <;> simp <;> omega
theorem trim_le (l : List UInt8) : (trim l).length ≤ l.length := by
  unfold trim trimR trimL
  have h1 := dropWhile_le isBl (l.dropWhile isBl).reverse
  have h2 := dropWhile_le isBl l
  simp at h1 ⊢; omega

theorem strim_any (s : ByteArray) (w : World) (hs : s.size ≤ maxLen) :
    Calls Tryz.prog 43 #[.string s, .string ⟨#[32, 9]⟩] w fun e w' => e = .returned (.string (bs (trim (L s)))) ∧ Below w.heap.size w w' := by
  refine (Any.strings_Trim_laid Tryz.lays160 (by kernel_rfl) s ⟨#[32, 9]⟩ w hs (by decide) (ascii_of_all (by decide))).mono ?_
  rintro e w' ⟨rfl, hb⟩
  refine ⟨ret_str ?_, hb⟩
  show _ = bs _
  unfold trim
  rw [← trim_swap]
  have e : ∀ b : UInt8, ([32, 9] : List UInt8).contains b = isBl b := by
    intro b
    rw [Bool.eq_iff_iff]
    simp [isBl, ← UInt8.toNat_inj]
  unfold Lib.trimS Lib.trimLeftS Lib.trimRightS trimL trimR bs
  simp only [e, L]
end Go.Proofs.YtkenianfpfamcaaGreatDoor
namespace Go.Proofs.YtkenianfpfamcaaGreatDoor
open Go Go.RowKit

abbrev Ck := List UInt8 × List UInt8
/-- may a byte stand in a value -/
def inC (c : UInt8) : Bool := decide (33 ≤ c.toNat) && (decide (c.toNat ≤ 126) && (decide (c.toNat ≠ 34) && (decide (c.toNat ≠ 44) && (decide (c.toNat ≠ 59) && decide (c.toNat ≠ 92)))))
def quotedC (l : List UInt8) : Bool := decide (2 ≤ l.length) && (decide (l.head? = some 34) && decide (l.getLast? = some 34))
def unqC (l : List UInt8) : List UInt8 := if quotedC l = true then (l.take (l.length - 1)).drop 1 else l
def valC (l : List UInt8) : Bool := (unqC l).all inC
def tokC (l : List UInt8) : Bool := l.all signB && decide (l ≠ [])
def rightC (n v : List UInt8) : Bool := tokC n && (valC v && decide (n.length + v.length ≤ 4096))
/-- what stands ahead of the first such byte, and behind it -/
def cutC (c : UInt8) : List UInt8 → Option Ck
  | [] => none
  | d :: r => if d = c then some ([], r) else (cutC c r).map fun p => (d :: p.1, p.2)
/-- a text at each of a byte -/
def splitC (c : UInt8) : List UInt8 → List (List UInt8)
  | [] => [[]]
  | d :: r => if d = c then [] :: splitC c r else match splitC c r with | [] => [[d]] | p :: ps => (d :: p) :: ps
/-- the cookie that a piece says -/
def pairC (l : List UInt8) : Option Ck := match cutC 61 l with | none => none | some (a, b) => if rightC (trim a) (trim b) = true then some (trim a, trim b) else none
def eqC (c : Ck) : List UInt8 := c.1 ++ 61 :: c.2
theorem splitC_ne (c : UInt8) (l : List UInt8) : splitC c l ≠ [] := by
  cases l with
  | nil => intro h; cases h
  | cons d r =>
    unfold splitC
    split
    · intro h; cases h
    · split <;> (intro h; cases h)
theorem splitC_no {c : UInt8} : ∀ {x : List UInt8} (r : List UInt8), (∀ d ∈ x, d ≠ c) → splitC c (x ++ c :: r) = x :: splitC c r
  | [], r, _ => by
    show splitC c (c :: r) = _
    rw [splitC, if_pos rfl]
  | d :: x, r, h => by
    have ih := splitC_no (x := x) r (fun e he => h e (List.mem_cons_of_mem _ he))
    show splitC c (d :: (x ++ c :: r)) = _
    rw [splitC, if_neg (h d (List.mem_cons_self ..)), ih]
theorem splitC_end {c : UInt8} : ∀ {x : List UInt8}, (∀ d ∈ x, d ≠ c) → splitC c x = [x]
  | [], _ => rfl
  | d :: x, h => by
    have ih := splitC_end (x := x) (fun e he => h e (List.mem_cons_of_mem _ he))
    rw [splitC, if_neg (h d (List.mem_cons_self ..)), ih]
end Go.Proofs.YtkenianfpfamcaaGreatDoor
namespace Go.Proofs.YtkenianfpfamcaaGreatDoor
open Go Go.RowKit
set_option maxHeartbeats 4000000

theorem inC_iff (c : UInt8) : inC c = true ↔ (33 ≤ c.toNat ∧ c.toNat ≤ 126 ∧ c.toNat ≠ 34 ∧ c.toNat ≠ 44 ∧ c.toNat ≠ 59 ∧ c.toNat ≠ 92) := by
  unfold inC
  simp only [Bool.and_eq_true, decide_eq_true_eq]
set_option maxRecDepth 100000 in
theorem plain_any (s : ByteArray) (w : World) (hs : s.size ≤ maxLen) : Calls Tryz.prog 126 #[.string s] w fun e w' => e = .returned (.bool ((L s).all inC)) ∧ w = w' := by
  unfold maxLen at hs
  obtain ⟨R, hR⟩ := name_it ((L s).all inC)
  rw [hR.out]
  go_enter Tryz.func126, Tryz.ntmps126
  go_wp2_with fail
  go_loop [3, 4, 7] (fun _ _ i => ∃ k : Nat, k ≤ s.size ∧ i = .int .i64 k ∧ Hid (((L s).drop k).all inC = R)) (fun _ _ i => s.size - (intOf i).toNat)
  case atStart => exact ⟨0, Nat.zero_le _, rfl, hR⟩
  case round =>
    obtain ⟨k, hk, rfl, hr⟩ := hrel
    by_cases hlt : k < s.size
    · have hi := inC_iff s[k]
      cases hb : inC s[k]
      · have hr2 := hr.out
        rw [L_drop hlt, List.all_cons, hb] at hr2
        rw [hb] at hi
        have HI : Hid (¬ (33 ≤ s[k].toNat ∧ s[k].toNat ≤ 126 ∧ s[k].toNat ≠ 34 ∧ s[k].toNat ≠ 44 ∧ s[k].toNat ≠ 59 ∧ s[k].toNat ≠ 92)) := fun h => by have := hi.2 h; cases this
        have HR := Lib.hid hr2; clear hr2 hr hi hb
        go_wp2_with fail
        all_goals (try (exfalso; have := HI.out; (try simp only [beq_eq_false_iff_ne, ne_eq] at *); omega))
        all_goals
          go_ret
          exact ⟨ret_bool (by rw [← HR.out]; rfl), rfl⟩
      · have hr2 := hr.out
        rw [L_drop hlt, List.all_cons, hb] at hr2
        obtain ⟨i1, i2, i3, i4, i5, i6⟩ := hi.1 hb
        have HR := Lib.hid hr2; clear hr2 hr hi hb
        go_wp2_with fail
        all_goals (try (exfalso; omega))
        go_round
        case rel => exact ⟨k + 1, by omega, by go_num, Lib.hid (by have h := HR.out; simpa using h)⟩
        case measure => simp [intOf]; omega
    · obtain rfl : k = s.size := by omega
      rw [L_drop_all] at hr
      go_wp2_with fail
      go_ret
      exact ⟨ret_bool (by rw [← hr.out]; rfl), rfl⟩
theorem quoted_iff (s : ByteArray) (h : 1 < s.size) : quotedC (L s) = true ↔ (s[0].toNat = 34 ∧ s[s.size - 1].toNat = 34) := by
  have hl : (L s).length = s.size := L_length s
  have h1 : (L s).head? = some s[0] := by
    have := L_drop (s := s) (k := 0) (by omega)
    rw [List.drop_zero] at this
    rw [this]; rfl
  have h2 : (L s).getLast? = some s[s.size - 1] := by
    rw [List.getLast?_eq_getElem?, hl]
    have := L_drop (s := s) (k := s.size - 1) (by omega)
    have e : (L s)[s.size - 1]? = ((L s).drop (s.size - 1)).head? := by rw [List.head?_drop]
    rw [e, this]; rfl
  unfold quotedC
  rw [h1, h2, hl]
  simp only [Bool.and_eq_true, decide_eq_true_eq, Option.some.injEq, ← UInt8.toNat_inj]
  constructor
  · rintro ⟨_, a, b⟩; exact ⟨a, b⟩
  · rintro ⟨a, b⟩; exact ⟨h, a, b⟩
set_option maxRecDepth 100000 in
theorem isvalue_any (s : ByteArray) (w : World) (hs : s.size ≤ maxLen) : Calls Tryz.prog 80 #[.string s] w fun e w' => e = .returned (.bool (valC (L s))) ∧ w = w' := by
  unfold maxLen at hs
  obtain ⟨R, hR⟩ := name_it (valC (L s))
  rw [hR.out]
  have hp := fun (t : ByteArray) (ht : t.size ≤ 9223372036854775807) => plain_any t w (by unfold maxLen; omega)
  have HP := Lib.hid hp
  clear hp
  by_cases hqq : ∃ h1 : 1 < s.size, s[0].toNat = 34 ∧ s[s.size - 1].toNat = 34
  · obtain ⟨h1, q0, q1⟩ := hqq
    have HV : Hid ((L (s.extract 1 (s.size - 1))).all inC = R) := by
      rw [← hR.out]; unfold Hid valC unqC
      rw [if_pos ((quoted_iff s h1).2 ⟨q0, q1⟩), L_length, extract_bs, L_bs]
    have hz : (s.extract 1 (s.size - 1)).size ≤ 9223372036854775807 := by rw [extract_bs, size_bs, List.length_drop, List.length_take, L_length]; omega
    have HZ := Lib.hid hz
    clear hR hz
    go_enter Tryz.func80, Tryz.ntmps80
    go_wp2_with fail
    all_goals (try (exfalso; omega))
    refine (HP.out _ HZ.out).mono ?_; rintro e w' ⟨rfl, rfl⟩
    go_wp2_with fail
    go_ret
    exact ⟨ret_bool HV.out, rfl⟩
  · have HV : Hid ((L s).all inC = R) := by
      rw [← hR.out]; unfold Hid valC unqC
      rw [if_neg]
      intro hq
      have h1 : 1 < s.size := by
        unfold quotedC at hq
        rw [Bool.and_eq_true, decide_eq_true_eq, L_length] at hq
        exact hq.1
      exact hqq ⟨h1, (quoted_iff s h1).1 hq⟩
    have HN : Hid (∀ h1 : 1 < s.size, ¬ (s[0].toNat = 34 ∧ s[s.size - 1].toNat = 34)) := fun h1 h => hqq ⟨h1, h⟩
    clear hR hqq
    go_enter Tryz.func80, Tryz.ntmps80
    go_wp2_with fail
    all_goals (try (exfalso; have := HN.out (by omega); (try simp only [beq_eq_false_iff_ne, beq_iff_eq, ne_eq] at *); omega))
    all_goals
      refine (HP.out _ (by omega)).mono ?_; rintro e w' ⟨rfl, rfl⟩
      go_wp2_with fail
      go_ret
      exact ⟨ret_bool HV.out, rfl⟩
end Go.Proofs.YtkenianfpfamcaaGreatDoor
namespace Go.Proofs.YtkenianfpfamcaaGreatDoor
open Go Go.RowKit
set_option maxHeartbeats 4000000

def signsT : List Nat := [0, 67071226, 3355443198, 1476395007]
/-- what the program's variable holds -/
structure EnvT (w : World) : Prop where
  n : 9 ≤ w.heap.size
  sg : ∀ j, j < 4 → w.cell? ⟨2, j, none⟩ = some (.int .u32 ((signsT.getD j 0 : Nat) : Int))
theorem EnvT.next {w w' : World} (h : EnvT w) (hb : Below w.heap.size w w') : EnvT w' where
  n := Nat.le_trans h.n hb.size
  sg j hj := by rw [hb.cell (p := ⟨2, j, none⟩) (Nat.lt_of_lt_of_le (by show 2 < 9; decide) h.n)]; exact h.sg j hj

theorem signs_low : ∀ p : Fin 128, (bits BinOp.and IntKind.u32 (((signsT.getD (p.val / 32) 0 : Nat) : Int) / 2 ^ (p.val % 32)) 1 == 1) = signB (UInt8.ofNat p.val) := by decide +kernel
theorem signs_high : ∀ p : Fin 256, 128 ≤ p.val → signB (UInt8.ofNat p.val) = false := by decide +kernel

set_option maxRecDepth 100000 in
theorem osign_any (c : UInt8) (w : World) (hE : EnvT w) : Calls Tryz.prog 125 #[.int .u8 c.toNat] w fun e w' => e = .returned (.bool (signB c)) ∧ w = w' := by
  obtain ⟨R, hR⟩ := name_it (signB c)
  rw [hR.out]
  by_cases h : c.toNat < 128
  · have hc := hE.sg (c.toNat / 32) (by omega)
    obtain ⟨T, hT⟩ := name_it ((signsT.getD (c.toNat / 32) 0 : Nat) : Int)
    rw [hT.out] at hc
    have q0 : (0 : Int) ≤ (c.toNat : Int) := by omega
    have q1 : (c.toNat : Int) < 128 := by omega
    go_enter Tryz.func125, Tryz.ntmps125
    go_wp2_with fail
    all_goals (try (exfalso; omega))
    go_ret
    refine ⟨ret_bool ?_, rfl⟩
    rw [← hT.out, ← hR.out]
    have := signs_low ⟨c.toNat, h⟩
    rw [show UInt8.ofNat (Fin.val (⟨c.toNat, h⟩ : Fin 128)) = c from UInt8.ofNat_toNat] at this
    exact this
  · have hf : Hid (R = false) := by
      have := signs_high ⟨c.toNat, c.toNat_lt⟩ (by show 128 ≤ c.toNat; omega)
      rw [show UInt8.ofNat (Fin.val (⟨c.toNat, c.toNat_lt⟩ : Fin 256)) = c from UInt8.ofNat_toNat] at this
      rw [← hR.out]; exact this
    clear hR
    go_enter Tryz.func125, Tryz.ntmps125
    go_wp2_with fail
    all_goals (try (exfalso; omega))
    go_ret
    exact ⟨ret_bool hf.out.symm, rfl⟩

set_option maxRecDepth 100000 in
theorem istoken_any (s : ByteArray) (w : World) (hE : EnvT w) (hs : s.size ≤ 1073741824) : Calls Tryz.prog 79 #[.string s] w fun e w' => e = .returned (.bool ((L s).all signB && decide (L s ≠ []))) ∧ w = w' := by
  obtain ⟨R, hR⟩ := name_it ((L s).all signB && decide (L s ≠ []))
  rw [hR.out]
  have HS := Lib.hid (fun c => osign_any c w hE)
  obtain ⟨A, hA⟩ := name_it ((L s).all signB)
  rw [hA.out] at hR
  go_enter Tryz.func79, Tryz.ntmps79
  go_wp2_with fail
  go_loop [3, 6] (fun _ i => ∃ k : Nat, k ≤ s.size ∧ i = .int .i64 k ∧ Hid (((L s).drop k).all signB = A)) (fun _ i => s.size - (intOf i).toNat)
  case atStart => exact ⟨0, Nat.zero_le _, rfl, hA⟩
  case round =>
    obtain ⟨k, hk, rfl, hr⟩ := hrel
    by_cases hlt : k < s.size
    · cases hb : signB s[k]
      · have hr2 := hr.out
        rw [L_drop hlt, List.all_cons, hb] at hr2
        have hf : Hid (R = false) := by rw [← hR.out, ← hr2]; rfl
        have HK := Lib.hid (HS.out s[k])
        rw [hb] at HK
        clear hr2 hr
        go_wp2_with (go_at_call 125; refine HK.out.mono ?_; rintro e w' ⟨rfl, rfl⟩)
        go_ret
        exact ⟨ret_bool hf.out.symm, rfl⟩
      · have hr2 := hr.out
        rw [L_drop hlt, List.all_cons, hb] at hr2
        have HR := Lib.hid hr2
        have HK := Lib.hid (HS.out s[k])
        rw [hb] at HK
        clear hr2 hr
        go_wp2_with (go_at_call 125; refine HK.out.mono ?_; rintro e w' ⟨rfl, rfl⟩)
        go_round
        case rel => exact ⟨k + 1, by omega, by go_num, Lib.hid (by have h := HR.out; simpa using h)⟩
        case measure => simp [intOf]; omega
    · obtain rfl : k = s.size := by omega
      rw [L_drop_all] at hr
      have hA2 : Hid (A = true) := hr.out.symm
      have hR2 : Hid (R = decide (L s ≠ [])) := by rw [← hR.out, hA2.out]; unfold Hid; rw [Bool.true_and]
      clear hr
      go_wp2_with fail
      go_ret
      exact ⟨ret_bool (by rw [hR2.out]; (try simp only []); simp; exact str_empty s), rfl⟩
end Go.Proofs.YtkenianfpfamcaaGreatDoor
namespace Go.Proofs.YtkenianfpfamcaaGreatDoor
open Go Go.RowKit
set_option maxHeartbeats 4000000

set_option maxRecDepth 100000 in
theorem right_any (n v : ByteArray) (w : World) (hE : EnvT w) (hn : n.size ≤ 1073741824) (hv : v.size ≤ 1073741824) : Calls Tryz.prog 38 #[.string n, .string v] w fun e w' => e = .returned (.bool (rightC (L n) (L v))) ∧ w = w' := by
  obtain ⟨R, hR⟩ := name_it (rightC (L n) (L v))
  rw [hR.out]
  have hr := hR.out
  have h1 := istoken_any n w hE hn
  have h2 := isvalue_any v w (by unfold maxLen; omega)
  unfold rightC at hr
  rw [L_length, L_length] at hr
  change (tokC (L n) && _) = R at hr
  change Calls Tryz.prog 79 #[.string n] w fun e w' => e = .returned (.bool (tokC (L n))) ∧ w = w' at h1
  clear hR
  cases ht : tokC (L n) with
  | false =>
    rw [ht] at h1 hr
    have H1 := Lib.hid h1
    have HR := Lib.hid hr
    clear h1 h2 hr ht
    go_enter Tryz.func38, Tryz.ntmps38
    go_wp2_with (go_at_call 79; refine H1.out.mono ?_; rintro e w' ⟨rfl, rfl⟩)
    go_ret
    exact ⟨ret_bool HR.out, rfl⟩
  | true =>
    rw [ht] at h1 hr
    cases hvv : valC (L v) with
    | false =>
      rw [hvv] at h2 hr
      have H1 := Lib.hid h1
      have H2 := Lib.hid h2
      have HR := Lib.hid hr
      clear h1 h2 hr ht hvv
      go_enter Tryz.func38, Tryz.ntmps38
      go_wp2_with (first | (go_at_call 79; refine H1.out.mono ?_; rintro e w' ⟨rfl, rfl⟩) | (go_at_call 80; refine H2.out.mono ?_; rintro e w' ⟨rfl, rfl⟩))
      go_ret
      exact ⟨ret_bool HR.out, rfl⟩
    | true =>
      rw [hvv] at h2 hr
      have H1 := Lib.hid h1
      have H2 := Lib.hid h2
      have HR : Hid (decide ((n.size : Int) + v.size ≤ 4096) = R) := by
        rw [← hr]; unfold Hid
        rw [Bool.eq_iff_iff]; simp; omega
      clear h1 h2 hr ht hvv
      go_enter Tryz.func38, Tryz.ntmps38
      go_wp2_with (first | (go_at_call 79; refine H1.out.mono ?_; rintro e w' ⟨rfl, rfl⟩) | (go_at_call 80; refine H2.out.mono ?_; rintro e w' ⟨rfl, rfl⟩))
      all_goals (try (exfalso; omega))
      go_ret
      exact ⟨ret_bool HR.out, rfl⟩
end Go.Proofs.YtkenianfpfamcaaGreatDoor
namespace Go.Proofs.YtkenianfpfamcaaGreatDoor
open Go Go.RowKit

theorem lindex_cons_eq (c : UInt8) (l : List UInt8) : Lib.index (c :: l) [c] = 0 := by rw [Lib.index]; simp [List.isPrefixOf]
theorem lindex_cons_ne {c d : UInt8} (l : List UInt8) (h : d ≠ c) : Lib.index (d :: l) [c] = if Lib.index l [c] == -1 then -1 else Lib.index l [c] + 1 := by
  have hp : ([c] : List UInt8).isPrefixOf (d :: l) = false := by simp [List.isPrefixOf, Ne.symm h]
  rw [Lib.index, hp]; simp
/-- where a byte stands first -/
theorem cutC_index (c : UInt8) : ∀ l : List UInt8, (cutC c l = none ∧ Lib.index l [c] = -1) ∨ (∃ a b, cutC c l = some (a, b) ∧ Lib.index l [c] = (a.length : Int) ∧ l = a ++ c :: b)
  | [] => Or.inl ⟨rfl, rfl⟩
  | d :: l => by
    by_cases h : d = c
    · subst h
      exact Or.inr ⟨[], l, by rw [cutC, if_pos rfl], lindex_cons_eq d l, rfl⟩
    · rcases cutC_index c l with ⟨h1, h2⟩ | ⟨a, b, h1, h2, h3⟩
      · exact Or.inl ⟨by rw [cutC, if_neg h, h1]; rfl, by rw [lindex_cons_ne l h, h2]; rfl⟩
      · refine Or.inr ⟨d :: a, b, by rw [cutC, if_neg h, h1]; rfl, ?_, by rw [h3]; rfl⟩
        rw [lindex_cons_ne l h, h2, if_neg (by simp; done), List.length_cons]; omega
/-- what stands ahead of the first such byte, and behind it; without one: all -/
def halvesG (c : UInt8) (l : List UInt8) : Ck := (cutC c l).getD (l, [])
theorem lib_cutC (c : UInt8) (l : List UInt8) : Lib.cut l [c] = ((halvesG c l).1, (halvesG c l).2, (cutC c l).isSome) := by
  unfold Lib.cut halvesG
  rcases cutC_index c l with ⟨h1, h2⟩ | ⟨a, b, h1, h2, h3⟩
  · rw [h1, h2]; rfl
  · rw [h1, h2, if_pos (by omega)]
    have e : ((a.length : Int)).toNat = a.length := by omega
    rw [e, h3, List.take_left]
    have e2 : a ++ c :: b = (a ++ [c]) ++ b := by simp
    have e3 : a.length + [c].length = (a ++ [c]).length := by simp
    rw [e2, e3, List.drop_left]; rfl
theorem splitK_C (c : UInt8) : ∀ l : List UInt8, Lib.splitK [c] 0 (Lib.count l [c]) l = splitC c l
  | [] => by rw [Lib.count_miss (by simp [Lib.index])]; rfl
  | d :: l => by
    have ih := splitK_C c l
    by_cases h : d = c
    · subst h
      rw [Lib.count_cons_eq, Nat.add_comm, Lib.splitK, lindex_cons_eq, splitC, if_pos rfl]
      rw [if_neg (by decide)]
      show List.take 0 _ :: Lib.splitK [d] 0 _ l = _
      rw [ih]; rfl
    · rw [Lib.count_cons_ne _ _ _ h, splitC, if_neg h, ← ih]
      rcases cutC_index c l with ⟨h1, h2⟩ | ⟨a, b, h1, h2, h3⟩
      · rw [Lib.count_miss h2]; rfl
      · rw [Lib.count_hit (by simp) h2, Nat.add_comm 1, Lib.splitK, Lib.splitK, lindex_cons_ne l h, h2]
        have q1 : ((a.length : Int) == -1) = false := by simp
        have q2 : ((a.length : Int) + 1 == -1) = false := by simp; omega
        rw [q1]
        simp only [Bool.false_eq_true, if_false]
        rw [q2]
        simp only [Bool.false_eq_true, if_false]
        have e1 : ((a.length : Int)).toNat = a.length := by omega
        have e2 : ((a.length : Int) + 1).toNat = a.length + 1 := by omega
        rw [e1, e2]
        rfl
theorem splitC_length (c : UInt8) (l : List UInt8) : (splitC c l).length ≤ l.length + 1 := by
  induction l with
  | nil => exact Nat.le_refl _
  | cons d l ih =>
    rw [splitC]
    split
    · rw [List.length_cons, List.length_cons]; omega
    · cases h : splitC c l with
      | nil => simp
      | cons p ps => rw [h] at ih; simp at ih ⊢; omega
theorem splitC_each (c : UInt8) : ∀ (l : List UInt8), ∀ p ∈ splitC c l, p.length ≤ l.length
  | [], p, h => by
    rw [splitC, List.mem_singleton] at h
    rw [h]; exact Nat.le_refl _
  | d :: l, p, h => by
    have ih := splitC_each c l
    rw [splitC] at h
    split at h
    · rcases List.mem_cons.1 h with rfl | h
      · exact Nat.zero_le _
      · have := ih p h; rw [List.length_cons]; omega
    · cases hs : splitC c l with
      | nil => rw [hs] at h; rw [List.mem_singleton] at h; rw [h]; simp
      | cons q qs =>
        rw [hs] at h ih
        rcases List.mem_cons.1 h with rfl | h
        · have := ih q (List.mem_cons_self ..); rw [List.length_cons, List.length_cons]; omega
        · have := ih p (List.mem_cons_of_mem _ h); rw [List.length_cons]; omega
/-- the library's pieces -/
theorem splitB_C (s : ByteArray) (c : UInt8) : Lib.splitB ⟨#[c]⟩ 0 (Lib.countB s ⟨#[c]⟩) s = (splitC c (L s)).map bs := by
  have h := Lib.splitB_data ⟨#[c]⟩ 0 (Lib.countB s ⟨#[c]⟩) s
  have h2 : Lib.splitK (⟨#[c]⟩ : ByteArray).data.toList 0 (Lib.countB s ⟨#[c]⟩) s.data.toList = splitC c (L s) := splitK_C c (L s)
  rw [h2] at h
  rw [← h, List.map_map]
  have : (bs ∘ fun x : ByteArray => x.data.toList) = id := by funext x; exact bs_L x
  rw [this, List.map_id]
theorem countB_C (s : ByteArray) (c : UInt8) : Lib.countB s ⟨#[c]⟩ + 1 = (splitC c (L s)).length := by
  have h := Lib.splitB_all ⟨#[c]⟩ (by show 1 ≤ 1; exact Nat.le_refl _) 0 _ s rfl
  rw [splitB_C, List.length_map] at h
  exact h.symm
theorem halves_le (c : UInt8) (l : List UInt8) : (halvesG c l).1.length ≤ l.length ∧ (halvesG c l).2.length ≤ l.length := by
  unfold halvesG
  rcases cutC_index c l with ⟨h1, _⟩ | ⟨a, b, h1, _, h3⟩
  · rw [h1]; exact ⟨Nat.le_refl _, Nat.zero_le _⟩
  · rw [h1, h3]; simp; omega
end Go.Proofs.YtkenianfpfamcaaGreatDoor
