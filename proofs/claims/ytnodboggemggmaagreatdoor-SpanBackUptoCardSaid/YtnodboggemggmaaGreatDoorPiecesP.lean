/- The parts of a body in parts, in plain Lean: a line's value, found by the program and by the document alike. -/
import Derived.Test.YtnodboggemggmaaGreatDoorToldD
namespace Go.Proofs.YtnodboggemggmaaGreatDoor
open Go Go.RowKit

inductive LineR where
  | short
  | bad
  | val (t : List UInt8)
def LineR.on (c : UInt8) : LineR → LineR
  | .val x => .val (c :: x)
  | .short => .short
  | .bad => .bad
/-- what is behind the beginning of a line: field bytes up to the line's end -/
def crEnd : List UInt8 → LineR
  | [] => .short
  | d :: _ => if d = 10 then .val [] else .bad
def scanT : List UInt8 → LineR
  | [] => .short
  | c :: r => if isFld c = true then (scanT r).on c else if c = 13 then crEnd r else .bad
theorem scanT_cons (c : UInt8) (r : List UInt8) : scanT (c :: r) = if isFld c = true then (scanT r).on c else if c = 13 then crEnd r else .bad := rfl
def crlfAt : List UInt8 → Option Nat
  | [] => none
  | [_] => none
  | x :: y :: r => if x = 13 ∧ y = 10 then some 0 else (crlfAt (y :: r)).map (· + 1)
def trimCR : List UInt8 → List UInt8
  | [] => []
  | [c] => if c = 13 then [] else [c]
  | c :: d :: r => c :: trimCR (d :: r)
def progT (t : List UInt8) : LineR :=
  match crlfAt t with
  | none => if (trimCR t).all isFld = true then .short else .bad
  | some j => if (t.take j).all isFld = true then .val (t.take j) else .bad
theorem fld13 : isFld 13 = false := by decide
theorem progT_cons {c d : UInt8} {r : List UInt8} (h : ¬ (c = 13 ∧ d = 10)) : progT (c :: d :: r) = if isFld c = true then (progT (d :: r)).on c else .bad := by
  have e1 : crlfAt (c :: d :: r) = (crlfAt (d :: r)).map (· + 1) := by rw [crlfAt, if_neg h]
  have e2 : trimCR (c :: d :: r) = c :: trimCR (d :: r) := rfl
  unfold progT
  rw [e1]
  cases crlfAt (d :: r) with
  | none =>
    show (if (trimCR (c :: d :: r)).all isFld = true then LineR.short else .bad) = if isFld c = true then LineR.on c (if (trimCR (d :: r)).all isFld = true then LineR.short else .bad) else .bad
    rw [e2, List.all_cons]
    cases isFld c <;> cases (trimCR (d :: r)).all isFld <;> rfl
  | some j =>
    show (if ((c :: d :: r).take (j + 1)).all isFld = true then LineR.val ((c :: d :: r).take (j + 1)) else .bad) = if isFld c = true then LineR.on c (if ((d :: r).take j).all isFld = true then LineR.val ((d :: r).take j) else .bad) else .bad
    rw [List.take_succ_cons, List.all_cons]
    cases isFld c <;> cases ((d :: r).take j).all isFld <;> rfl
theorem progT_scan : ∀ (t : List UInt8), progT t = scanT t
  | [] => rfl
  | [c] => by
    show (if (trimCR [c]).all isFld = true then LineR.short else .bad) = if isFld c = true then LineR.short else if c = 13 then .short else .bad
    by_cases hc : c = 13
    · subst hc; rw [fld13]; rfl
    · have : trimCR [c] = [c] := by rw [trimCR, if_neg hc]
      rw [this, List.all_cons, if_neg hc]
      cases isFld c <;> rfl
  | c :: d :: r => by
    by_cases h : c = 13 ∧ d = 10
    · obtain ⟨rfl, rfl⟩ := h
      rfl
    · rw [progT_cons h, progT_scan (d :: r), scanT_cons c]
      cases hf : isFld c
      · rw [if_neg (by decide), if_neg (by decide)]
        by_cases hc : c = 13
        · rw [if_pos hc]
          show _ = if d = 10 then LineR.val [] else .bad
          rw [if_neg (fun hd => h ⟨hc, hd⟩)]
        · rw [if_neg hc]
      · rfl
def LineR.pre (h : List UInt8) : LineR → LineR
  | .val x => .val (h ++ x)
  | .short => .short
  | .bad => .bad
theorem scanT_pre : ∀ (h t : List UInt8), h.all isFld = true → scanT (h ++ t) = (scanT t).pre h
  | [], t, _ => by
    rw [List.nil_append]
    cases scanT t <;> rfl
  | c :: h, t, ha => by
    rw [List.all_cons, Bool.and_eq_true] at ha
    show scanT (c :: (h ++ t)) = _
    rw [scanT_cons, if_pos ha.1, scanT_pre h t ha.2]
    cases scanT t <;> rfl
theorem scanT_all (h : List UInt8) (ha : h.all isFld = true) : scanT h = .short := by
  have := scanT_pre h [] ha
  rw [List.append_nil] at this
  exact this
/-- a line that begins with a text -/
def lineM (head rest : List UInt8) : LineR :=
  if rest.length < head.length then (if rest = head.take rest.length then .short else .bad)
  else if rest.take head.length = head then scanT (rest.drop head.length) else .bad
theorem progT_line {head rest : List UInt8} (hh : head.all isFld = true) (h : rest.take head.length = head.take rest.length) : progT rest = if rest.length < head.length then .short else (scanT (rest.drop head.length)).pre head := by
  rw [progT_scan]
  by_cases hl : rest.length < head.length
  · rw [if_pos hl]
    rw [List.take_of_length_le (by omega)] at h
    refine scanT_all rest ?_
    rw [h]
    exact List.all_eq_true.2 fun c hc => List.all_eq_true.1 hh c (List.mem_of_mem_take hc)
  · rw [if_neg hl]
    rw [List.take_of_length_le (l := head) (by omega)] at h
    have e : rest = head ++ rest.drop head.length := by
      have := List.take_append_drop head.length rest
      rw [h] at this; exact this.symm
    conv => lhs; rw [e]
    exact scanT_pre head _ hh
/-- the value's place: the line is beginning, value, end -/
theorem scanT_val : ∀ {t x : List UInt8}, scanT t = .val x → t = x ++ [13, 10] ++ t.drop (x.length + 2) ∧ x.all isFld = true
  | [], x, h => by cases h
  | c :: r, x, h => by
    rw [scanT_cons] at h
    cases hf : isFld c
    · rw [hf, if_neg (by decide)] at h
      split at h
      · rename_i hc
        cases r with
        | nil => cases h
        | cons d r =>
          have h2 : (if d = 10 then LineR.val [] else .bad) = LineR.val x := h
          split at h2
          · rename_i hd
            cases h2
            subst hc hd
            exact ⟨rfl, rfl⟩
          · cases h2
      · cases h
    · rw [hf, if_pos rfl] at h
      cases hs : scanT r with
      | short => rw [hs] at h; cases h
      | bad => rw [hs] at h; cases h
      | val y =>
        rw [hs] at h
        cases h
        obtain ⟨e, ha⟩ := scanT_val hs
        refine ⟨?_, by rw [List.all_cons, hf, ha]; rfl⟩
        show c :: r = c :: (y ++ [13, 10] ++ r.drop (y.length + 2))
        rw [← e]
theorem lineM_val {head rest x : List UInt8} (h : lineM head rest = .val x) : rest = head ++ x ++ [13, 10] ++ rest.drop (head.length + x.length + 2) ∧ x.all isFld = true := by
  unfold lineM at h
  split at h
  · split at h <;> cases h
  · split at h
    · rename_i hl he
      obtain ⟨e, ha⟩ := scanT_val h
      refine ⟨?_, ha⟩
      rw [List.drop_drop] at e
      have := List.take_append_drop head.length rest
      rw [he] at this
      conv => lhs; rw [← this, e]
      simp only [List.append_assoc, Nat.add_assoc]
    · cases h
end Go.Proofs.YtnodboggemggmaaGreatDoor
