/- Contracts of a line's value: the document. -/
import Derived.Test.YtnodboggemggmaaGreatDoorLineA
namespace Go.Proofs.YtnodboggemggmaaGreatDoor
open Go Go.RowKit
set_option maxHeartbeats 2000000

def startsB (l t : List UInt8) : Bool := decide (l.take t.length = t)
def cutB (l t : List UInt8) : Bool := decide (l.length < t.length ∧ t.take l.length = l)
theorem pre_on (h : List UInt8) (c : UInt8) (r : LineR) : (r.on c).pre h = r.pre (h ++ [c]) := by
  cases r <;> simp [LineR.on, LineR.pre]
def rlineV (r : LineR) (at_ : Int) : Value := match r with
  | .short => .tuple #[.string ⟨#[]⟩, .int .i64 0, .int .i64 94]
  | .bad => .tuple #[.string ⟨#[]⟩, .int .i64 0, .int .i64 93]
  | .val x => .tuple #[.string (bs x), .int .i64 (at_ + x.length + 2), .int .i64 0]
theorem scan_end {d : List UInt8} {c : UInt8} {r : List UInt8} (hd : d = c :: r) (hc : isFld c = false) :
    scanT d = if cutB d [13, 10] = true then .short else if startsB d [13, 10] = true then .val [] else .bad := by
  subst hd
  rw [scanT_cons, hc, if_neg (by decide)]
  unfold cutB startsB
  by_cases h13 : c = 13
  · subst h13
    rw [if_pos rfl]
    cases r with
    | nil => simp [crEnd]
    | cons e r =>
      by_cases he : e = 10
      · subst he; simp [crEnd]; intro h; omega
      · simp [crEnd, he]; intro h; omega
  · rw [if_neg h13, if_neg, if_neg]
    · simp [h13]
    · simp only [decide_eq_true_eq]
      rintro ⟨h1, h2⟩
      cases r with
      | nil => simp at h2; exact h13 h2.symm
      | cons e r => simp at h1; omega

end Go.Proofs.YtnodboggemggmaaGreatDoor
