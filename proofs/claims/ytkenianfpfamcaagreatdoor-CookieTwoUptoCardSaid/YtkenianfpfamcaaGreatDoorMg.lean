/- A cookie that a server sets: its text, what a text says, what is wrong with one: plain; printed and read. Contracts of cookie: paths, domains. Program's. A block whose cells are stored anew, one after another. Contracts of cookie: the cookie that a piece says, ages. Program's. Worlds in which some blocks may be other; what stays in them: a block's cells, a row, a map. -/
import Derived.Test.YtkenianfpfamcaaGreatDoorMb
import Derived.Test.YtkenianfpfamcaaGreatDoorMc
import Derived.Test.YtkenianfpfamcaaGreatDoorMf
import Derived.Test.YtkenianfpfamcaaGreatDoorMe
import Derived.Test.YtkenianfpfamcaaGreatDoorMa
import Derived.Test.YtkenianfpfamcaaGreatDoorMd
import Derived.Deep.AppendLies
import Derived.Maps.OwnSet
import Derived.Maps.RangeWalk
namespace Go.Proofs.YtkenianfpfamcaaGreatDoor
open Go Go.RowKit

structure SetC where
  name : List UInt8
  value : List UInt8
  path : List UInt8
  domain : List UInt8
  maxAge : Int
  hasMax : Bool
  expires : Int
  hasExp : Bool
  secure : Bool
  http : Bool
  same : Int
  deriving DecidableEq
def pathB (c : UInt8) : Bool := decide (33 ≤ c.toNat ∧ c.toNat ≤ 126 ∧ c.toNat ≠ 59)
def pathC (l : List UInt8) : Bool := l.all pathB && decide (l.head? = some 47)
def domB (c : UInt8) : Bool := decide ((97 ≤ c.toNat ∧ c.toNat ≤ 122) ∨ (48 ≤ c.toNat ∧ c.toNat ≤ 57) ∨ c.toNat = 45 ∨ c.toNat = 46)
def domC (l : List UInt8) : Bool := l.all domB && (decide (l ≠ []) && (decide (l.length ≤ 255) && decide (l.head? ≠ some 46)))
def unminus (l : List UInt8) : List UInt8 := if l.head? = some 45 then l.drop 1 else l
/-- what a value says as an age -/
def ageC (l : List UInt8) : Option Int := if unminus l = [] ∨ (unminus l).all isDig = false then none else some (if l.head? = some 45 then 0 else if valOf l ≤ 34560000 then valOf l else 34560000)
def undot (l : List UInt8) : List UInt8 := if l.head? = some 46 then l.drop 1 else l
def wExpires : List UInt8 := [101, 120, 112, 105, 114, 101, 115]
def wMaxAge : List UInt8 := [109, 97, 120, 45, 97, 103, 101]
def wDomain : List UInt8 := [100, 111, 109, 97, 105, 110]
def wPath : List UInt8 := [112, 97, 116, 104]
def wSecure : List UInt8 := [115, 101, 99, 117, 114, 101]
def wHttp : List UInt8 := [104, 116, 116, 112, 111, 110, 108, 121]
def wSame : List UInt8 := [115, 97, 109, 101, 115, 105, 116, 101]
def wLax : List UInt8 := [108, 97, 120]
def wStrict : List UInt8 := [115, 116, 114, 105, 99, 116]
def wNone : List UInt8 := [110, 111, 110, 101]
def sameC (l : List UInt8) : Int := if l = wLax then 1 else if l = wStrict then 2 else if l = wNone then 3 else 0
def expC (now : Int) (v : List UInt8) : Stm.PR := Stm.parseP v (isMom now) (nowY now)
/-- the cookie behind one attribute more: its word, small -/
def attrC (now : Int) (c : SetC) (w v : List UInt8) : SetC :=
  if w = wExpires then (if (expC now v).e = 0 then { c with expires := (expC now v).m, hasExp := true } else c)
  else if w = wMaxAge then (match ageC v with | none => c | some n => { c with maxAge := n, hasMax := true })
  else if w = wDomain then (if domC (undot (v.map lowerB)) = true then { c with domain := undot (v.map lowerB) } else c)
  else if w = wPath then { c with path := if pathC v = true then v else [] }
  else if w = wSecure then { c with secure := true }
  else if w = wHttp then { c with http := true }
  else if w = wSame then { c with same := sameC (v.map lowerB) }
  else c
def halvesC (l : List UInt8) : Ck := (cutC 61 l).getD (l, [])
def pieceC (now : Int) (c : SetC) (p : List UInt8) : SetC := attrC now c ((trim (halvesC p).1).map lowerB) (trim (halvesC p).2)
def freshC (x : Ck) : SetC := ⟨x.1, x.2, [], [], 0, false, 0, false, false, false, 0⟩
def parseSetC (now : Int) (s : List UInt8) : Option SetC := match splitC 59 s with
  | [] => none
  | p :: ps => (pairC p).map fun x => ps.foldl (pieceC now) (freshC x)
/-- what is wrong with one -/
def badC (c : SetC) : Prop := (c.path ≠ [] ∧ pathC c.path = false) ∨ (c.domain ≠ [] ∧ domC c.domain = false) ∨ (c.maxAge < 0 ∨ 34560000 < c.maxAge ∨ (c.hasMax = false ∧ c.maxAge ≠ 0)) ∨
  ((c.hasExp = true ∧ isMom c.expires = false) ∨ (c.hasExp = false ∧ c.expires ≠ 0)) ∨ (c.same < 0 ∨ 3 < c.same)
instance (c : SetC) : Decidable (badC c) := by unfold badC; infer_instance
def wrongC (c : SetC) : Int := if rightC c.name c.value = false then 160 else if badC c then 161 else 0
/-- an attribute's text -/
def aPath (c : SetC) : List UInt8 := [80, 97, 116, 104] ++ 61 :: c.path
def aDomain (c : SetC) : List UInt8 := [68, 111, 109, 97, 105, 110] ++ 61 :: c.domain
def aMax (c : SetC) : List UInt8 := [77, 97, 120, 45, 65, 103, 101] ++ 61 :: Lib.itoa c.maxAge
def aExp (c : SetC) : List UInt8 := [69, 120, 112, 105, 114, 101, 115] ++ 61 :: writeOf c.expires 0
def aSec : List UInt8 := [83, 101, 99, 117, 114, 101]
def aHttp : List UInt8 := [72, 116, 116, 112, 79, 110, 108, 121]
def aLax : List UInt8 := [83, 97, 109, 101, 83, 105, 116, 101] ++ 61 :: [76, 97, 120]
def aStrict : List UInt8 := [83, 97, 109, 101, 83, 105, 116, 101] ++ 61 :: [83, 116, 114, 105, 99, 116]
def aNone : List UInt8 := [83, 97, 109, 101, 83, 105, 116, 101] ++ 61 :: [78, 111, 110, 101]
def sayIf (b : Bool) (t : List UInt8) : List (List UInt8) := if b = true then [t] else []
def attrsC (c : SetC) : List (List UInt8) :=
  sayIf (decide (c.path ≠ [])) (aPath c) ++ (sayIf (decide (c.domain ≠ [])) (aDomain c) ++ (sayIf c.hasMax (aMax c) ++ (sayIf c.hasExp (aExp c) ++ (sayIf c.secure aSec ++ (sayIf c.http aHttp ++
  (sayIf (decide (c.same = 1)) aLax ++ (sayIf (decide (c.same = 2)) aStrict ++ sayIf (decide (c.same = 3)) aNone)))))))
def textC (c : SetC) : List UInt8 := eqC (c.name, c.value) ++ Lib.joinTail [59, 32] (attrsC c)
def printSetC (c : SetC) : List UInt8 := if wrongC c = 0 then textC c else []

/-! printed and read -/
theorem wrong_parts {c : SetC} (h : wrongC c = 0) : rightC c.name c.value = true ∧ (c.path = [] ∨ pathC c.path = true) ∧ (c.domain = [] ∨ domC c.domain = true) ∧ (0 ≤ c.maxAge ∧ c.maxAge ≤ 34560000 ∧ (c.hasMax = true ∨ c.maxAge = 0)) ∧
    ((c.hasExp = true → isMom c.expires = true) ∧ (c.hasExp = false → c.expires = 0)) ∧ (0 ≤ c.same ∧ c.same ≤ 3) := by
  unfold wrongC at h
  split at h
  · cases h
  · rename_i h1
    split at h
    · cases h
    · rename_i h2
      unfold badC at h2
      refine ⟨by simpa using h1, ?_, ?_, ?_, ⟨?_, ?_⟩, ?_⟩
      · rcases Decidable.em (c.path = []) with e | e
        · exact Or.inl e
        · right; cases hp : pathC c.path with
          | true => rfl
          | false => exact absurd (Or.inl ⟨e, hp⟩) h2
      · rcases Decidable.em (c.domain = []) with e | e
        · exact Or.inl e
        · right; cases hp : domC c.domain with
          | true => rfl
          | false => exact absurd (Or.inr (Or.inl ⟨e, hp⟩)) h2
      · refine ⟨?_, ?_, ?_⟩
        · exact Decidable.byContradiction fun e => h2 (Or.inr (Or.inr (Or.inl (Or.inl (by omega)))))
        · exact Decidable.byContradiction fun e => h2 (Or.inr (Or.inr (Or.inl (Or.inr (Or.inl (by omega))))))
        · cases hm : c.hasMax with
          | true => exact Or.inl rfl
          | false => exact Or.inr (Decidable.byContradiction fun e => h2 (Or.inr (Or.inr (Or.inl (Or.inr (Or.inr ⟨hm, e⟩))))))
      · intro e
        cases hm : isMom c.expires with
        | true => rfl
        | false => exact absurd (Or.inr (Or.inr (Or.inr (Or.inl (Or.inl ⟨e, hm⟩))))) h2
      · exact fun e => Decidable.byContradiction fun e2 => h2 (Or.inr (Or.inr (Or.inr (Or.inl (Or.inr ⟨e, e2⟩)))))
      · constructor
        · exact Decidable.byContradiction fun e => h2 (Or.inr (Or.inr (Or.inr (Or.inr (Or.inl (by omega))))))
        · exact Decidable.byContradiction fun e => h2 (Or.inr (Or.inr (Or.inr (Or.inr (Or.inr (by omega))))))
end Go.Proofs.YtkenianfpfamcaaGreatDoor
namespace Go.Proofs.YtkenianfpfamcaaGreatDoor
open Go Go.RowKit
set_option maxHeartbeats 4000000

theorem bs_append (x y : List UInt8) : bs x ++ bs y = bs (x ++ y) := by
  apply L_inj.1
  simp [L, bs, ByteArray.data_append]
theorem pathB_iff (c : UInt8) : pathB c = true ↔ (33 ≤ c.toNat ∧ c.toNat ≤ 126 ∧ c.toNat ≠ 59) := by
  unfold pathB
  rw [decide_eq_true_eq]
theorem domB_iff (c : UInt8) : domB c = true ↔ ((97 ≤ c.toNat ∧ c.toNat ≤ 122) ∨ (48 ≤ c.toNat ∧ c.toNat ≤ 57) ∨ c.toNat = 45 ∨ c.toNat = 46) := by
  unfold domB
  rw [decide_eq_true_eq]
theorem hasPrefix_one (c : UInt8) (l : List UInt8) : Lib.hasPrefix l [c] = decide (l.head? = some c) := by
  unfold Lib.hasPrefix
  cases l with
  | nil => rfl
  | cons d r =>
    show ((c == d) && List.isPrefixOf [] r) = _
    rw [Bool.eq_iff_iff, Bool.and_eq_true, beq_iff_eq, decide_eq_true_eq]
    constructor
    · rintro ⟨h, _⟩; rw [h]; rfl
    · intro h; injection h with h; exact ⟨h.symm, rfl⟩
set_option maxRecDepth 100000 in
theorem ispath_any (s : ByteArray) (w : World) (hs : s.size ≤ maxLen) : Calls Tryz.prog 49 #[.string s] w fun e w' => e = .returned (.bool (pathC (L s))) ∧ w = w' := by
  unfold maxLen at hs
  have HR0 : Hid (pathC (L s) = ((L s).all pathB && decide ((L s).head? = some 47))) := rfl
  have HX : Hid (∀ wx : World, Calls Tryz.prog 95 #[.string s, .string ⟨#[47]⟩] wx fun e w' => e = .returned (.bool (decide ((L s).head? = some 47))) ∧ wx = w') := by
    intro wx
    refine (Tryz.strings_HasPrefix s ⟨#[47]⟩ wx).mono ?_
    rintro e w' ⟨rfl, rfl⟩
    exact ⟨ret_bool (hasPrefix_one 47 (L s)), rfl⟩
  rw [HR0.out]
  clear HR0
  obtain ⟨A, hA⟩ := name_it ((L s).all pathB)
  obtain ⟨B, hB⟩ := name_it (decide ((L s).head? = some 47))
  rw [hA.out, hB.out]
  rw [hB.out] at HX
  clear hB
  go_enter Tryz.func49, Tryz.ntmps49
  go_wp2_with fail
  go_loop [3, 6] (fun _ i => ∃ k : Nat, k ≤ s.size ∧ i = .int .i64 k ∧ Hid (((L s).drop k).all pathB = A)) (fun _ i => s.size - (intOf i).toNat)
  case atStart => exact ⟨0, Nat.zero_le _, rfl, hA⟩
  clear hA
  case round =>
    obtain ⟨k, hk, rfl, hr⟩ := hrel
    by_cases hlt : k < s.size
    · have hi := pathB_iff s[k]
      cases hb : pathB s[k]
      · have hr2 := hr.out
        rw [L_drop hlt, List.all_cons, hb] at hr2
        rw [hb] at hi
        have HI : Hid (¬ (33 ≤ s[k].toNat ∧ s[k].toNat ≤ 126 ∧ s[k].toNat ≠ 59)) := fun h => by have := hi.2 h; cases this
        have HR : Hid (A = false) := by rw [← hr2]; rfl
        clear hr2 hr hi hb
        go_wp2_with fail
        all_goals (try (exfalso; have := HI.out; (try simp only [beq_eq_false_iff_ne, ne_eq] at *); omega))
        all_goals
          go_ret
          exact ⟨ret_bool (by rw [HR.out, Bool.false_and]), rfl⟩
      · have hr2 := hr.out
        rw [L_drop hlt, List.all_cons, hb] at hr2
        obtain ⟨i1, i2, i3⟩ := hi.1 hb
        have HR := Lib.hid hr2; clear hr2 hr hi hb
        go_wp2_with fail
        all_goals (try (exfalso; omega))
        go_round
        case rel => exact ⟨k + 1, by omega, by go_num, Lib.hid (by have h := HR.out; simpa using h)⟩
        case measure => simp [intOf]; omega
    · obtain rfl : k = s.size := by omega
      rw [L_drop_all] at hr
      have HR : Hid (A = true) := hr.out.symm
      clear hr
      go_wp2_with fail
      refine (HX.out _).mono ?_; rintro e w' ⟨rfl, rfl⟩
      go_wp2_with fail
      go_ret
      exact ⟨ret_bool (by rw [HR.out, Bool.true_and]), rfl⟩
theorem head_get (s : ByteArray) (c : UInt8) (h : 0 < s.size) : decide ((L s).head? ≠ some c) = !(((s[0].toNat : Int)) == c.toNat) := by
  have h1 : (L s).head? = some s[0] := by
    have := L_drop (s := s) (k := 0) h
    rw [List.drop_zero] at this
    rw [this]; rfl
  rw [h1, Bool.eq_iff_iff]
  simp [← UInt8.toNat_inj]
  omega
set_option maxRecDepth 100000 in
theorem isdomain_any (s : ByteArray) (w : World) (hs : s.size ≤ maxLen) : Calls Tryz.prog 50 #[.string s] w fun e w' => e = .returned (.bool (domC (L s))) ∧ w = w' := by
  unfold maxLen at hs
  have HR0 : Hid (domC (L s) = ((L s).all domB && (decide (L s ≠ []) && (decide ((L s).length ≤ 255) && decide ((L s).head? ≠ some 46))))) := rfl
  rw [HR0.out]
  clear HR0
  obtain ⟨A, hA⟩ := name_it ((L s).all domB)
  obtain ⟨B, hB⟩ := name_it (decide (L s ≠ []) && (decide ((L s).length ≤ 255) && decide ((L s).head? ≠ some 46)))
  rw [hA.out, hB.out]
  go_enter Tryz.func50, Tryz.ntmps50
  go_wp2_with fail
  go_loop [3, 4, 7] (fun _ _ i => ∃ k : Nat, k ≤ s.size ∧ i = .int .i64 k ∧ Hid (((L s).drop k).all domB = A)) (fun _ _ i => s.size - (intOf i).toNat)
  case atStart => exact ⟨0, Nat.zero_le _, rfl, hA⟩
  clear hA
  case round =>
    obtain ⟨k, hk, rfl, hr⟩ := hrel
    by_cases hlt : k < s.size
    · have hi := domB_iff s[k]
      cases hb : domB s[k]
      · have hr2 := hr.out
        rw [L_drop hlt, List.all_cons, hb] at hr2
        rw [hb] at hi
        have HI : Hid (¬ ((97 ≤ s[k].toNat ∧ s[k].toNat ≤ 122) ∨ (48 ≤ s[k].toNat ∧ s[k].toNat ≤ 57) ∨ s[k].toNat = 45 ∨ s[k].toNat = 46)) := fun h => by have := hi.2 h; cases this
        have HR : Hid (A = false) := by rw [← hr2]; rfl
        clear hr2 hr hi hb hB
        go_wp2_with fail
        all_goals (try (exfalso; have := HI.out; (try simp only [Bool.not_eq_false', Bool.not_eq_true', beq_iff_eq, beq_eq_false_iff_ne, ne_eq] at *); omega))
        all_goals
          go_ret
          exact ⟨ret_bool (by rw [HR.out, Bool.false_and]), rfl⟩
      · have hr2 := hr.out
        rw [L_drop hlt, List.all_cons, hb] at hr2
        have HI := Lib.hid (hi.1 hb)
        have HR := Lib.hid hr2; clear hr2 hr hi hb
        go_wp2_with fail
        all_goals (try (exfalso; have := HI.out; (try simp only [Bool.not_eq_false', Bool.not_eq_true', beq_iff_eq, beq_eq_false_iff_ne, ne_eq] at *); omega))
        all_goals
          first
          | exact ⟨⟨k + 1, by omega, by go_num, Lib.hid (by have h := HR.out; simpa using h)⟩, by simp [intOf]; omega⟩
          | (go_round
             case rel => exact ⟨k + 1, by omega, by go_num, Lib.hid (by have h := HR.out; simpa using h)⟩
             case measure => simp [intOf]; omega)
    · obtain rfl : k = s.size := by omega
      rw [L_drop_all] at hr
      have HR : Hid (A = true) := hr.out.symm
      clear hr
      have hE := str_empty s
      by_cases hz : s.size = 0
      · have hn : L s = [] := List.eq_nil_of_length_eq_zero (by rw [L_length]; exact hz)
        have HF : Hid (B = false) := by rw [← hB.out, hn]; rfl
        have hE2 : s.toList.isEmpty = true := by rw [hE, hn]; rfl
        clear hB hE hn
        go_wp2_with fail
        all_goals (try (exfalso; omega))
        all_goals
          go_ret
          exact ⟨ret_bool (by rw [HF.out, Bool.and_false]), rfl⟩
      · have hn : L s ≠ [] := fun e => hz (by rw [← L_length, e]; rfl)
        have hE2 : s.toList.isEmpty = false := by rw [hE]; exact decide_eq_false hn
        have HF : Hid (B = (decide (s.size ≤ 255) && !(((s[0]'(by omega)).toNat : Int) == 46))) := by
          unfold Hid
          rw [← hB.out, head_get s 46 (by omega), L_length, decide_eq_true hn, Bool.true_and]; rfl
        clear hB hE hn
        by_cases h255 : s.size ≤ 255
        · rw [decide_eq_true h255, Bool.true_and] at HF
          go_wp2_with fail
          all_goals (try (exfalso; omega))
          all_goals
            go_ret
            exact ⟨ret_bool (by rw [HR.out, HF.out, Bool.true_and]; rfl), rfl⟩
        · rw [decide_eq_false h255, Bool.false_and] at HF
          go_wp2_with fail
          all_goals (try (exfalso; omega))
          all_goals
            go_ret
            exact ⟨ret_bool (by rw [HF.out, Bool.and_false]), rfl⟩
end Go.Proofs.YtkenianfpfamcaaGreatDoor
namespace Go.Proofs.YtkenianfpfamcaaGreatDoor
open Go Go.RowKit

def putAll (w : World) (b : Nat) : Nat → List Value → World
  | _, [] => w
  | k, v :: vs => putAll (w.setCell ⟨b, k, none⟩ v) b (k + 1) vs
theorem below_set {B b k : Nat} {w w' : World} {v : Value} (h : Below B w w') (hb : B ≤ b) : Below B w (w'.setCell ⟨b, k, none⟩ v) := h.setCell hb _
theorem putAll_below {B b : Nat} : ∀ (vs : List Value) (k : Nat) (w w' : World), Below B w w' → B ≤ b → Below B w (putAll w' b k vs)
  | [], _, _, _, h, _ => h
  | v :: vs, k, w, w', h, hb => by
    rw [putAll]
    exact putAll_below vs (k + 1) w _ (below_set h hb) hb
theorem CellsAt.putTail {b : Nat} : ∀ (vs pre old : List Value) (w : World), CellsAt w b (pre ++ old) → old.length = vs.length → CellsAt (putAll w b pre.length vs) b (pre ++ vs)
  | [], pre, old, w, h, hl => by
    have : old = [] := List.eq_nil_of_length_eq_zero hl
    subst this
    exact h
  | v :: vs, pre, old, w, h, hl => by
    cases old with
    | nil => cases hl
    | cons x old =>
      rw [putAll]
      have h1 := h.set pre.length (by simp) v
      have e : (pre ++ x :: old).set pre.length v = (pre ++ [v]) ++ old := by simp
      rw [e] at h1
      have h2 := CellsAt.putTail vs (pre ++ [v]) old _ h1 (by simpa using hl)
      rw [List.length_append, List.length_singleton, List.append_assoc] at h2
      exact h2
theorem CellsAt.put {w : World} {b : Nat} {old : List Value} (h : CellsAt w b old) (vs : List Value) (hl : old.length = vs.length) : CellsAt (putAll w b 0 vs) b vs :=
  CellsAt.putTail vs [] old w h hl
theorem CellsAt.at {w : World} {b : Nat} {cs : List Value} (h : CellsAt w b cs) (k : Nat) (v : Value) (hv : cs[k]? = some v) : w.cell? ⟨b, k, none⟩ = some v := by
  obtain ⟨hk, e⟩ := List.getElem?_eq_some_iff.1 hv
  rw [h.cell k hk, e]
theorem below_put2 {w : World} {cs : Array Value} {T : TypeId} : Below w.heap.size w (w.alloc (.cells cs T)) := (Below.refl _ _).alloc (Nat.le_refl _) _
end Go.Proofs.YtkenianfpfamcaaGreatDoor
namespace Go.Proofs.YtkenianfpfamcaaGreatDoor
open Go Go.RowKit
set_option maxHeartbeats 4000000

/-- what the program's variables hold, the library's search with them -/
structure EnvK (w : World) : Prop where
  t : EnvT w
  s : EnvS w
  max : ∃ m, w.cell? ⟨3, 0, none⟩ = some (.int .i64 m)
theorem EnvK.next {w w' : World} (h : EnvK w) (hb : Below w.heap.size w w') : EnvK w' := by
  refine ⟨h.t.next hb, h.s.next hb, ?_⟩
  obtain ⟨m, hm⟩ := h.max
  exact ⟨m, by rw [hb.cell (p := ⟨3, 0, none⟩) (Nat.lt_of_lt_of_le (by show 3 < 9; decide) h.t.n)]; exact hm⟩
theorem EnvK.alloc {w : World} (h : EnvK w) (o : Obj) : EnvK (w.alloc o) := h.next ((Below.refl _ _).alloc (Nat.le_refl _) _)
theorem cut_eq (s : ByteArray) (w : World) (hE : EnvK w) (hs : s.size ≤ 1073741824) :
    Calls Tryz.prog 54 #[.string s, .string ⟨#[61]⟩] w fun e w' => e = .returned (.tuple #[.string (bs (halvesG 61 (L s)).1), .string (bs (halvesG 61 (L s)).2), .bool (cutC 61 (L s)).isSome]) ∧ Below w.heap.size w w' := by
  obtain ⟨m, hm⟩ := hE.max
  refine (Tryz.strings_Cut s ⟨#[61]⟩ m w (by omega) hm).mono ?_
  rintro e w' ⟨rfl, n, rfl⟩
  refine ⟨ret_val ?_, below_of_drewN n⟩
  have : Lib.cut s.data.toList (⟨#[61]⟩ : ByteArray).data.toList = _ := lib_cutC 61 (L s)
  rw [this]; rfl
def pairV (o : Option Ck) : Value := match o with
  | some c => .tuple #[.agg #[.string (bs c.1), .string (bs c.2)], .bool true]
  | none => .tuple #[.agg #[.string ⟨#[]⟩, .string ⟨#[]⟩], .bool false]
theorem pairC_eqn (l : List UInt8) : pairC l = if (cutC 61 l).isSome = true ∧ rightC (trim (halvesG 61 l).1) (trim (halvesG 61 l).2) = true then some (trim (halvesG 61 l).1, trim (halvesG 61 l).2) else none := by
  unfold pairC halvesG
  cases cutC 61 l with
  | none => rfl
  | some p => obtain ⟨a, b⟩ := p; simp
theorem age_dec (l : List UInt8) : ageC l = if decE (unminus l) 34560000 = 11 then none else some (if l.head? = some 45 then 0 else if decE (unminus l) 34560000 = 12 then 34560000 else decN (unminus l) 34560000) := by
  by_cases hm : l.head? = some 45
  · unfold ageC decN decE
    by_cases h : unminus l = [] ∨ (unminus l).all isDig = false
    · rw [if_pos h, if_pos h]; rfl
    · rw [if_neg h, if_neg h, if_pos hm, if_pos hm]
      by_cases h2 : valOf (unminus l) ≤ 34560000
      · rw [if_pos h2]; rfl
      · rw [if_neg h2]; rfl
  · have e : unminus l = l := if_neg hm
    unfold ageC decN decE
    rw [e]
    by_cases h : l = [] ∨ l.all isDig = false
    · rw [if_pos h, if_pos h]; rfl
    · rw [if_neg h, if_neg h, if_neg hm, if_neg hm]
      by_cases h2 : valOf l ≤ 34560000
      · rw [if_pos h2, if_pos h2]; rfl
      · rw [if_neg h2, if_neg h2]; rfl
theorem lib_minus (l : List UInt8) : Lib.trimPrefix l [45] = unminus l ∧ Lib.hasPrefix l [45] = decide (l.head? = some 45) := by
  refine ⟨?_, hasPrefix_one 45 l⟩
  unfold Lib.trimPrefix unminus
  rw [hasPrefix_one]
  simp
theorem lib_undot (l : List UInt8) : Lib.trimPrefix l [46] = undot l := by
  unfold Lib.trimPrefix undot
  rw [hasPrefix_one]
  simp
theorem decE_cases3 (l : List UInt8) (m : Int) : decE l m = 11 ∨ decE l m = 12 ∨ decE l m = 0 := by
  unfold decE; split <;> (try split) <;> simp
theorem unminus_le (l : List UInt8) : (unminus l).length ≤ l.length := by unfold unminus; split <;> simp
theorem undot_le (l : List UInt8) : (undot l).length ≤ l.length := by unfold undot; split <;> simp
def ageV (o : Option Int) : Value := match o with
  | some n => .tuple #[.int .i64 n, .bool true]
  | none => .tuple #[.int .i64 0, .bool false]
set_option maxRecDepth 100000 in
theorem age_any (s : ByteArray) (w : World) (hs : s.size ≤ 1073741824) :
    Calls Tryz.prog 100 #[.string s] w fun e w' => e = .returned (ageV (ageC (L s))) ∧ Below w.heap.size w w' := by
  have hD : Hid (∀ wx, Calls Tryz.prog 147 #[.string (bs (unminus (L s))), .int .i64 34560000] wx fun e w' => e = .returned (.tuple #[.int .i64 (decN (unminus (L s)) 34560000), .int .i64 (decE (unminus (L s)) 34560000)]) ∧ Below wx.heap.size wx w') := by
    intro wx
    have := decimal_any (bs (unminus (L s))) 34560000 wx (by unfold maxLen; rw [size_bs]; have := unminus_le (L s); rw [L_length] at this; omega) (by decide) (by decide)
    rw [L_bs] at this
    exact this
  have hC : Hid (∀ wx, Calls Tryz.prog 123 #[.string s, .string ⟨#[45]⟩] wx fun e w' => e = .returned (.tuple #[.string (bs (unminus (L s))), .bool (decide ((L s).head? = some 45))]) ∧ wx = w') := by
    intro wx
    refine (Tryz.strings_CutPrefix s ⟨#[45]⟩ wx).mono ?_
    rintro e w' ⟨rfl, rfl⟩
    refine ⟨ret_val ?_, rfl⟩
    obtain ⟨q1, q2⟩ := lib_minus (L s)
    have e1 : Lib.trimPrefix s.data.toList (⟨#[45]⟩ : ByteArray).data.toList = unminus (L s) := q1
    have e2 : Lib.hasPrefix s.data.toList (⟨#[45]⟩ : ByteArray).data.toList = decide ((L s).head? = some 45) := q2
    rw [e1, e2]; rfl
  have hv := age_dec (L s)
  rw [hv]
  obtain ⟨U, hU⟩ := name_it (unminus (L s))
  rw [hU.out] at hC hD ⊢
  have hcs := decE_cases3 U 34560000
  obtain ⟨E, hE⟩ := name_it (decE U 34560000)
  obtain ⟨N, hN⟩ := name_it (decN U 34560000)
  rw [hE.out] at hD hcs ⊢
  rw [hN.out] at hD ⊢
  have hd : Hid (∀ p : Prop, ∀ [Decidable p] (x y : Int), (if p then x else y) = if decide p = true then x else y) := fun p _ x y => by by_cases h : p <;> simp [h]
  rw [hd.out]
  obtain ⟨B, hB⟩ := name_it (decide ((L s).head? = some 45))
  rw [hB.out] at hC ⊢
  clear hU hE hN hB hv hd
  have HD := Lib.hid hD.out
  rcases hcs with rfl | rfl | rfl
  all_goals cases B
  all_goals
    go_enter Tryz.func100, Tryz.ntmps100
    go_wp2_with fail
    refine (hC.out _).mono ?_; rintro e w' ⟨rfl, rfl⟩
    go_wp2_with fail
    refine (HD.out _).mono ?_; rintro e w1 ⟨rfl, hb1⟩
    go_wp2_with fail
    all_goals (try (exfalso; omega))
    go_ret2
    exact ⟨rfl, hb1⟩
abbrev tCk : TypeId := 25
set_option maxRecDepth 100000 in
theorem pair_any (s : ByteArray) (w : World) (hE : EnvK w) (hs : s.size ≤ 1073741824) :
    Calls Tryz.prog 44 #[.string s] w fun e w' => e = .returned (pairV (pairC (L s))) ∧ Below w.heap.size w w' := by
  have K1 := Lib.hid (CellsAt.first w [.string ⟨#[]⟩, .string ⟨#[]⟩] tCk)
  have B1 := Lib.hid (below_put2 (w := w) (cs := #[.string ⟨#[]⟩, .string ⟨#[]⟩]) (T := tCk))
  have E1 := Lib.hid (hE.alloc (.cells #[.string ⟨#[]⟩, .string ⟨#[]⟩] tCk))
  have HC := Lib.hid (cut_eq s _ E1.out hs)
  obtain ⟨V, hV⟩ := name_it (pairV (pairC (L s)))
  rw [hV.out]
  rw [pairC_eqn] at hV
  have hle := halves_le 61 (L s)
  rw [L_length] at hle
  obtain ⟨A, hA⟩ := name_it (halvesG 61 (L s)).1
  obtain ⟨Z, hZ⟩ := name_it (halvesG 61 (L s)).2
  obtain ⟨ok, hok⟩ := name_it (cutC 61 (L s)).isSome
  rw [hA.out, hZ.out, hok.out] at HC hV
  rw [hA.out, hZ.out] at hle
  clear hA hZ hok hE
  go_enter Tryz.func44, Tryz.ntmps44
  go_wp2_with fail
  refine HC.out.mono ?_; rintro e w2 ⟨rfl, hb2⟩
  have K2 := Lib.hid (K1.out.next hb2)
  have D2 := Lib.hid (B1.out.trans (hb2.mono B1.out.size))
  have E2 := Lib.hid (E1.out.next hb2)
  clear K1 B1 E1 HC hb2
  go_wp2_with fail
  refine (strim_any (bs A) _ (by unfold maxLen; rw [size_bs]; omega)).mono ?_; rintro e w3 ⟨rfl, hb3⟩
  rw [L_bs]
  have K3 := Lib.hid (K2.out.next hb3)
  have D3 := Lib.hid (D2.out.trans (hb3.mono D2.out.size))
  have E3 := Lib.hid (E2.out.next hb3)
  clear K2 D2 E2 hb3
  go_wp2_with fail
  refine (strim_any (bs Z) _ (by unfold maxLen; rw [size_bs]; omega)).mono ?_; rintro e w4 ⟨rfl, hb4⟩
  rw [L_bs]
  have K4 := Lib.hid (K3.out.next hb4)
  have D4 := Lib.hid (D3.out.trans (hb4.mono D3.out.size))
  have E4 := Lib.hid (E3.out.next hb4)
  clear K3 D3 E3 hb4
  have hla := trim_le A
  have hlz := trim_le Z
  obtain ⟨a, ha⟩ := name_it (trim A)
  obtain ⟨z, hz⟩ := name_it (trim Z)
  rw [ha.out] at hV hla ⊢
  rw [hz.out] at hV hlz ⊢
  have hsa : (bs a).size ≤ 1073741824 := by rw [size_bs]; omega
  have hsz : (bs z).size ≤ 1073741824 := by rw [size_bs]; omega
  have B5 := below_put2 (w := w4) (cs := #[.string (bs a), .string (bs z)]) (T := tCk)
  have K5 := Lib.hid (K4.out.next B5)
  have D5 := Lib.hid (D4.out.trans (B5.mono D4.out.size))
  have E5 := Lib.hid (E4.out.next B5)
  have HR := Lib.hid (right_any (bs a) (bs z) _ E5.out.t hsa hsz)
  rw [L_bs, L_bs] at HR
  have z0 := K5.out.at 0 _ rfl
  have z1 := K5.out.at 1 _ rfl
  have y0 := K5.out.free 0
  have y1 := K5.out.free 1
  have KE := Lib.hid (K5.out.put [.string ⟨#[]⟩, .string ⟨#[]⟩] rfl)
  have DE := Lib.hid (putAll_below [.string ⟨#[]⟩, .string ⟨#[]⟩] 0 _ _ D5.out (Nat.le_refl w.heap.size))
  have KF := Lib.hid (K5.out.put [.string (bs a), .string (bs z)] rfl)
  have DF := Lib.hid (putAll_below [.string (bs a), .string (bs z)] 0 _ _ D5.out (Nat.le_refl w.heap.size))
  unfold putAll putAll putAll at KE DE KF DF
  have e0 := KE.out.at 0 _ rfl
  have e1 := KE.out.at 1 _ rfl
  have f0 := KF.out.at 0 _ rfl
  have f1 := KF.out.at 1 _ rfl
  clear K4 D4 E4 B5 KE KF K5 ha hz
  simp only [Nat.zero_add] at DE DF e0 e1 f0 f1
  cases ok with
  | false =>
    have HV : Hid (pairV none = V) := by rw [← hV.out]; unfold Hid; rw [if_neg (fun h => by cases h.1)]
    clear hV HR f0 f1 DF
    go_wp2_with fail
    refine bodyPost_ret (v := pairV none) (by simp [results, Tryz.results44, go_sem, pairV, e0, e1]) rfl ?_
    exact ⟨by rw [HV.out], DE.out⟩
  | true =>
    cases hr : rightC a z with
    | false =>
      have HV : Hid (pairV none = V) := by rw [← hV.out]; unfold Hid; rw [if_neg (fun h => by rw [hr] at h; cases h.2)]
      rw [hr] at HR
      clear hV hr f0 f1 DF
      go_wp2_with (go_at_call 38; refine HR.out.mono ?_; rintro e w' ⟨rfl, rfl⟩)
      refine bodyPost_ret (v := pairV none) (by simp [results, Tryz.results44, go_sem, pairV, e0, e1]) rfl ?_
      exact ⟨by rw [HV.out], DE.out⟩
    | true =>
      have HV : Hid (pairV (some (a, z)) = V) := by rw [← hV.out]; unfold Hid; rw [if_pos ⟨rfl, hr⟩]
      rw [hr] at HR
      clear hV hr e0 e1 DE
      go_wp2_with (go_at_call 38; refine HR.out.mono ?_; rintro e w' ⟨rfl, rfl⟩)
      refine bodyPost_ret (v := pairV (some (a, z))) (by simp [results, Tryz.results44, go_sem, pairV, f0, f1]) rfl ?_
      exact ⟨by rw [HV.out], DF.out⟩
end Go.Proofs.YtkenianfpfamcaaGreatDoor
namespace Go.Proofs.YtkenianfpfamcaaGreatDoor
open Go Go.RowKit Go.Maps

/-- some blocks may be other, and there are new blocks -/
structure Keeps (S : Nat → Prop) (w w' : World) : Prop where
  os : w'.os = w.os
  tape : w'.tape = w.tape
  output : w'.output = w.output
  size : w.heap.size ≤ w'.heap.size
  block : ∀ i, i < w.heap.size → ¬ S i → w'.heap[i]? = w.heap[i]?
theorem Keeps.refl (S : Nat → Prop) (w : World) : Keeps S w w := ⟨rfl, rfl, rfl, Nat.le_refl _, fun _ _ _ => rfl⟩
theorem Keeps.trans {S : Nat → Prop} {a b c : World} (h : Keeps S a b) (k : Keeps S b c) : Keeps S a c :=
  ⟨k.os.trans h.os, k.tape.trans h.tape, k.output.trans h.output, Nat.le_trans h.size k.size, fun i hi hn => (k.block i (Nat.lt_of_lt_of_le hi h.size) hn).trans (h.block i hi hn)⟩
theorem Keeps.of {S : Nat → Prop} {B : Nat} {w w' : World} (h : Below B w w') (hB : w.heap.size ≤ B) : Keeps S w w' :=
  ⟨h.os, h.tape, h.output, h.size, fun i hi _ => h.block i (Nat.lt_of_lt_of_le hi hB)⟩
theorem Keeps.below {S : Nat → Prop} {B : Nat} {w w' : World} (h : Keeps S w w') (hS : ∀ i, i < B → ¬ S i) (hw : B ≤ w.heap.size) : Below B w w' :=
  ⟨h.os, h.tape, h.output, h.size, fun i hi => h.block i (Nat.lt_of_lt_of_le hi hw) (hS i hi)⟩
theorem Keeps.set {S : Nat → Prop} {b : Nat} (hb : S b) (o : Nat) (w : World) (v : Value) : Keeps S w (w.setCell ⟨b, o, none⟩ v) := by
  have h := (Below.refl b w).setCell (p := ⟨b, o, none⟩) (Nat.le_refl _) v
  exact ⟨h.os, h.tape, h.output, h.size, fun i _ hn => Below.heap_setCell w ⟨b, o, none⟩ v i (fun e => hn (e ▸ hb))⟩
theorem Keeps.mono {S T : Nat → Prop} {w w' : World} (h : Keeps S w w') (hST : ∀ i, i < w.heap.size → S i → T i) : Keeps T w w' :=
  ⟨h.os, h.tape, h.output, h.size, fun i hi hn => h.block i hi (fun hs => hn (hST i hi hs))⟩
theorem Keeps.then {S T : Nat → Prop} {a b c : World} (h : Keeps S a b) (k : Keeps T b c) (hTS : ∀ i, i < a.heap.size → T i → S i) : Keeps S a c :=
  ⟨k.os.trans h.os, k.tape.trans h.tape, k.output.trans h.output, Nat.le_trans h.size k.size, fun i hi hn => (k.block i (Nat.lt_of_lt_of_le hi h.size) (fun ht => hn (hTS i hi ht))).trans (h.block i hi hn)⟩
theorem Keeps.put {S : Nat → Prop} {b : Nat} (hb : S b) : ∀ (vs : List Value) (k : Nat) (w : World), Keeps S w (putAll w b k vs)
  | [], _, w => Keeps.refl _ w
  | v :: vs, k, w => (Keeps.set hb k w v).trans (Keeps.put hb vs (k + 1) _)
theorem cell_of_block {w w' : World} {b : Nat} (h : w'.heap[b]? = w.heap[b]?) (j : Nat) : w'.cell? ⟨b, j, none⟩ = w.cell? ⟨b, j, none⟩ := by
  unfold World.cell?
  rw [h]
theorem frozen_of_block {w w' : World} {b : Nat} (h : w'.heap[b]? = w.heap[b]?) (j : Nat) : w'.frozen? ⟨b, j, none⟩ = w.frozen? ⟨b, j, none⟩ := by
  unfold World.frozen?
  rw [h]
theorem CellsAt.keeps {S : Nat → Prop} {w w' : World} {b : Nat} {cs : List Value} (h : CellsAt w b cs) (k : Keeps S w w') (hb : ¬ S b) : CellsAt w' b cs where
  cell j hj := by rw [cell_of_block (k.block b h.lt hb)]; exact h.cell j hj
  free j := by rw [frozen_of_block (k.block b h.lt hb)]; exact h.free j
  lt := Nat.lt_of_lt_of_le h.lt k.size
theorem keeps_grown {S : Nat → Prop} {w w' : World} {r : Nat} (hg : w.grownBy w' (some r)) (hr : S r) : Keeps S w w' := ⟨hg.os, hg.tape, hg.output, hg.size, fun i hi hn => hg.block i hi (fun e => hn (by injection e with e; rw [e]; exact hr))⟩
theorem grown_of {w w' : World} (hb : Below w.heap.size w w') : w.grownBy w' none := ⟨hb.os, hb.tape, hb.output, hb.size, fun i hi _ => hb.block i hi⟩
theorem map_keeps {H : Type} {P : Program} {k : TypeId} {R : Value → Option (DataW H × List MemPlace)} {S : Nat → Prop} {w w' : World} {b n : Nat} {D : DataW H} (h : w.ownsMap P k R b n D) (K : Keeps S w w') (hb : ¬ S b) : w'.ownsMap P k R b n D := by
  have hlt := h.lt
  obtain ⟨es, clock, h1, F, hs, hD⟩ := h
  exact ⟨es, clock, (K.block b hlt hb).trans h1, F, hs, hD⟩
theorem row_kept {w w' : World} {base : Nat} {e : TypeId} {size n : Nat} {v : Value} {xs : List Value} (h : w.ownsRow base e size v n xs) (hk : ∀ g, v.ownBlock = some g → w'.heap[g]? = w.heap[g]?) : w'.ownsRow base e size v n xs := by
  refine ⟨h.1, ?_⟩
  rcases h.2 with hn | ⟨g, cap, cur, rfl, hb, hgg, rest⟩
  · exact .inl hn
  · exact .inr ⟨g, cap, cur, rfl, hb, (hk g rfl).trans hgg, rest⟩
theorem row_slice {w : World} {base : Nat} {e : TypeId} {size n : Nat} {v : Value} {xs : List Value} (h : w.ownsRow base e size v n xs) : ∃ p cap, v = .slice p n cap := by
  rcases h.2 with ⟨rfl, rfl⟩ | ⟨g, cap, cur, rfl, _⟩
  · exact ⟨none, 0, rfl⟩
  · exact ⟨some ⟨g, 0, none⟩, cap, rfl⟩
theorem ranges_kept {H : Type} {P : Program} {k : TypeId} {R : Value → Option (DataW H × List MemPlace)} {w w' : World} {b r n : Nat} {D : DataW H} {left : Lit → Bool} {cnt : Nat} (h : w.ranges P k R b r n D left cnt) (hb : w'.heap[b]? = w.heap[b]?) (hr : w'.heap[r]? = w.heap[r]?) : w'.ranges P k R b r n D left cnt := by
  obtain ⟨es, clock, since, seen, c0, h1, F, hs, hD, h2, rest⟩ := h
  exact ⟨es, clock, since, seen, c0, hb.trans h1, F, hs, hD, hr.trans h2, rest⟩
end Go.Proofs.YtkenianfpfamcaaGreatDoor
