/- Dates as text, in plain Lean: names, pieces of the three forms, reading a text piece by piece, writing a date. No program in sight. -/
import Derived.Test.YtmfnofpphnlbnaaDoorCal
namespace Go.Proofs.YtmfnofpphnlbnaaDoor.Stm

def monday : List UInt8 := [77, 111, 110, 100, 97, 121]
def tuesday : List UInt8 := [84, 117, 101, 115, 100, 97, 121]
def wednesday : List UInt8 := [87, 101, 100, 110, 101, 115, 100, 97, 121]
def thursday : List UInt8 := [84, 104, 117, 114, 115, 100, 97, 121]
def friday : List UInt8 := [70, 114, 105, 100, 97, 121]
def saturday : List UInt8 := [83, 97, 116, 117, 114, 100, 97, 121]
def sunday : List UInt8 := [83, 117, 110, 100, 97, 121]
def longN : List (List UInt8) := [monday, tuesday, wednesday, thursday, friday, saturday, sunday]
def shortN : List (List UInt8) := longN.map (List.take 3)
def monN : List (List UInt8) := [[74, 97, 110], [70, 101, 98], [77, 97, 114], [65, 112, 114], [77, 97, 121], [74, 117, 110], [74, 117, 108], [65, 117, 103], [83, 101, 112], [79, 99, 116], [78, 111, 118], [68, 101, 99]]

/-- the names of a kind: 0 a weekday's short ones, 1 its long ones, else a month's -/
def namesOf (k : Nat) : List (List UInt8) := if k = 0 then shortN else if k = 1 then longN else monN
/-- the first of some names that begins a text, counted from n on -/
def firstOf (t : List UInt8) : List (List UInt8) → Nat → Option (Nat × List UInt8)
  | [], _ => none
  | w :: ws, n => if w.isPrefixOf t then some (n, w) else firstOf t ws (n + 1)

inductive Pc
  | lit (c : UInt8)
  | name (k : Nat)
  | dig (w : Nat) (blank : Bool) (f : Nat)
  deriving DecidableEq

structure St where
  at_ : Nat
  wd : Int
  mo : Int
  dy : Int
  yr : Int
  hh : Int
  mi : Int
  ss : Int
  dyAt : Nat
  yrAt : Nat
  hhAt : Nat
  miAt : Nat
  ssAt : Nat
  deriving DecidableEq
def st0 : St := ⟨0, 0, 0, 0, 0, 0, 0, 0, 0, 0, 0, 0, 0⟩

def isDig (c : UInt8) : Bool := decide (48 ≤ c.toNat ∧ c.toNat ≤ 57)
/-- so many digits from a place on: the place, the number, whether they stand there; a blank may stand for the first -/
def digs (s : List UInt8) : Nat → Bool → Nat → Int → Nat × Int × Bool
  | 0, _, a, v => (a, v, true)
  | w + 1, b, a, v => match s[a]? with
    | none => (a, v, false)
    | some c => if b && c == 32 then digs s w false (a + 1) (10 * v)
      else if isDig c then digs s w false (a + 1) (10 * v + ((c.toNat : Int) - 48)) else (a, v, false)

def setName (k : Nat) (n : Nat) (st : St) : St := if k = 2 then { st with mo := (n : Int) + 1 } else { st with wd := n }
def setDig (f : Nat) (v : Int) (p : Nat) (st : St) : St :=
  if f = 0 then { st with dy := v, dyAt := p } else if f = 1 then { st with yr := v, yrAt := p } else if f = 2 then { st with hh := v, hhAt := p }
  else if f = 3 then { st with mi := v, miAt := p } else { st with ss := v, ssAt := p }
def stepP (s : List UInt8) (p : Pc) (st : St) : St × Bool :=
  match p with
  | .lit c => if s[st.at_]? = some c then ({ st with at_ := st.at_ + 1 }, true) else (st, false)
  | .name k => match firstOf (s.drop st.at_) (namesOf k) 0 with
    | none => (st, false)
    | some (n, w) => (setName k n { st with at_ := st.at_ + w.length }, true)
  | .dig w b f =>
    let r := digs s w b st.at_ 0
    if r.2.2 then (setDig f r.2.1 st.at_ { st with at_ := r.1 }, true) else ({ st with at_ := r.1 }, false)
def runP (s : List UInt8) : List Pc → St → St × Bool
  | [], st => (st, true)
  | p :: ps, st => let r := stepP s p st; if r.2 then runP s ps r.1 else r

theorem runP_cons (s : List UInt8) (p : Pc) (ps : List Pc) (st : St) : runP s (p :: ps) st = if (stepP s p st).2 then runP s ps (stepP s p st).1 else stepP s p st := rfl
theorem runP_append (s : List UInt8) : ∀ (a b : List Pc) (st : St), runP s (a ++ b) st = if (runP s a st).2 then runP s b (runP s a st).1 else runP s a st
  | [], b, st => rfl
  | p :: a, b, st => by
    rw [List.cons_append, runP_cons, runP_cons]
    by_cases h : (stepP s p st).2 = true
    · rw [if_pos h, if_pos h]; exact runP_append s a b _
    · rw [if_neg h, if_neg h, if_neg h]

/-! the three forms -/
def clockP : List Pc := [.dig 2 false 2, .lit 58, .dig 2 false 3, .lit 58, .dig 2 false 4]
def pcs (form : Nat) : List Pc :=
  if form = 0 then [.name 0, .lit 44, .lit 32, .dig 2 false 0, .lit 32, .name 2, .lit 32, .dig 4 false 1, .lit 32] ++ clockP ++ [.lit 32, .lit 71, .lit 77, .lit 84]
  else if form = 1 then [.name 1, .lit 44, .lit 32, .dig 2 false 0, .lit 45, .name 2, .lit 45, .dig 2 false 1, .lit 32] ++ clockP ++ [.lit 32, .lit 71, .lit 77, .lit 84]
  else [.name 0, .lit 32, .name 2, .lit 32, .dig 2 true 0, .lit 32] ++ clockP ++ [.lit 32, .dig 4 false 1]

def formFrom (t : List UInt8) : List (List UInt8) → Nat
  | [] => 2
  | w :: ws => if (w.take 3 ++ [44]).isPrefixOf t then 0 else if (w ++ [44]).isPrefixOf t then 1 else formFrom t ws
def formOf (t : List UInt8) : Nat := formFrom t longN

/-- the year within the hundred years from 'from' on whose last two digits are c's -/
def nearY (c lo : Int) : Int := lo + (c - lo) % 100
structure PR where
  m : Int
  form : Int
  e : Int
  at_ : Int
  deriving DecidableEq
/-- what was read, as a moment -/
def momentOf (st : St) (form : Nat) (nowY : Int) : PR :=
  let y := if form = 1 then nearY st.yr (nowY - 49) else st.yr
  if y < 1 ∨ 9999 < y then ⟨0, 0, 41, st.yrAt⟩
  else if Cal.daysOk y st.mo st.dy = false then ⟨0, 0, 41, st.dyAt⟩
  else if 23 < st.hh then ⟨0, 0, 42, st.hhAt⟩
  else if 59 < st.mi then ⟨0, 0, 42, st.miAt⟩
  else if 60 < st.ss then ⟨0, 0, 42, st.ssAt⟩
  else if st.wd ≠ (Cal.daysOf y st.mo st.dy + 3) % 7 then ⟨0, 0, 43, 0⟩
  else
    let m := Cal.daysOf y st.mo st.dy * 86400 + st.hh * 3600 + st.mi * 60 + st.ss
    if 253402300799 < m then ⟨0, 0, 40, 0⟩ else ⟨m, form, 0, 0⟩
def parseP (s : List UInt8) (nowOk : Bool) (nowY : Int) : PR :=
  if nowOk = false then ⟨0, 0, 40, 0⟩
  else
    let r := runP s (pcs (formOf s)) st0
    if r.2 = false ∨ r.1.at_ < s.length then ⟨0, 0, 44, r.1.at_⟩ else momentOf r.1 (formOf s) nowY
end Go.Proofs.YtmfnofpphnlbnaaDoor.Stm
