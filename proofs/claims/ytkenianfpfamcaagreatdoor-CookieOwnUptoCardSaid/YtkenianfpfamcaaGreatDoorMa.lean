/- Small words that every text of this seat uses: results, strings as lists of bytes. No condition. Contracts of octet: small letters (program and reference), whether two texts are the same whatever their letters' case; classes of bytes. Every text. Contracts of octet: classes of bytes, fields, decimal numbers (program and reference). The lines of a ledger in plain Lean: the reader's steps, as functions on a place and on whether it went wrong. Small laws for slices that a call makes itself: one element appended; a row of bytes read as a string. Contract of the document's Digits: a number's decimal numeral. Plain laws of numbers written in digits, and the first number whose mark a body has not. -/
import Derived.Test.YtkenianfpfamcaaGreatDoorProg
import Derived.WalkKit
import Derived.WalkSpells
import Derived.WalkLawsBesides
import Derived.WalkSmall
import Derived.Lib.Hide
import Derived.BigQuiet
import Derived.BigGuardPart
import Derived.Deep.QuietTactic
import Derived.Test.YtkenianfpfamcaaGreatDoorShelf
import Derived.Lib.ItoaLen
import Derived.Lib.ItoaMem
import Derived.Lib.IndexMore
namespace Go.Proofs.YtkenianfpfamcaaGreatDoor
open Go Go.RowKit

theorem ret_bool {a b : Bool} (h : a = b) : Ending.returned (.bool a) = Ending.returned (.bool b) := by rw [h]
theorem ret_int {k : IntKind} {a b : Int} (h : a = b) : Ending.returned (.int k a) = Ending.returned (.int k b) := by rw [h]
theorem ret_str {a b : ByteArray} (h : a = b) : Ending.returned (.string a) = Ending.returned (.string b) := by rw [h]
theorem ret_val {a b : Value} (h : a = b) : Ending.returned a = Ending.returned b := by rw [h]
theorem val_bool {a b : Bool} (h : a = b) : Value.bool a = Value.bool b := by rw [h]
theorem val_int {k : IntKind} {a b : Int} (h : a = b) : Value.int k a = Value.int k b := by rw [h]
theorem val_str {a b : ByteArray} (h : a = b) : Value.string a = Value.string b := by rw [h]

/-- Hidden equation out of a fresh name for a result. -/
theorem name_it {α : Sort _} (x : α) : ∃ R, Hid (x = R) := ⟨x, rfl⟩

theorem bcell {W w1 : World} (hb : Below W.heap.size W w1) : (∀ b o, b < W.heap.size → w1.cell? ⟨b, o, none⟩ = W.cell? ⟨b, o, none⟩) ∧ (∀ b o, b < W.heap.size → w1.frozen? ⟨b, o, none⟩ = W.frozen? ⟨b, o, none⟩) :=
  ⟨fun b o h => hb.cell (p := ⟨b, o, none⟩) h, fun b o h => hb.frozen (p := ⟨b, o, none⟩) h⟩

theorem below_of_drewN {w : World} (n : Nat) : Below w.heap.size w (w.drewN n) := below_drewN (Below.refl _ _) n

theorem snoc_ind {α : Type} {P : List α → Prop} (h0 : P []) (h1 : ∀ l c, P l → P (l ++ [c])) (l : List α) : P l := by
  rw [← List.reverse_reverse l]
  induction l.reverse with
  | nil => exact h0
  | cons c r ih => rw [List.reverse_cons]; exact h1 _ _ ih

/-! Strings as lists of bytes. Both words are opaque to the walk. -/
def L (s : ByteArray) : List UInt8 := s.data.toList
def bs (l : List UInt8) : ByteArray := ⟨l.toArray⟩
theorem L_bs (l : List UInt8) : L (bs l) = l := rfl
theorem bs_L (s : ByteArray) : bs (L s) = s := rfl
theorem size_bs (l : List UInt8) : (bs l).size = l.length := by simp [bs, ByteArray.size]
theorem L_length (s : ByteArray) : (L s).length = s.size := Array.length_toList
theorem L_getElem {s : ByteArray} {k : Nat} (h : k < s.size) : (L s)[k]'(by rw [L_length]; exact h) = s[k] := rfl
theorem L_drop {s : ByteArray} {k : Nat} (h : k < s.size) : (L s).drop k = s[k] :: (L s).drop (k + 1) := by
  rw [List.drop_eq_getElem_cons (by rw [L_length]; exact h)]; rfl
theorem L_take {s : ByteArray} {k : Nat} (h : k < s.size) : (L s).take (k + 1) = (L s).take k ++ [s[k]] := by
  rw [List.take_succ_eq_append_getElem (by rw [L_length]; exact h)]; rfl
theorem L_drop_all (s : ByteArray) : (L s).drop s.size = [] := List.drop_of_length_le (by rw [L_length]; exact Nat.le_refl _)
theorem L_take_all (s : ByteArray) : (L s).take s.size = L s := List.take_of_length_le (by rw [L_length]; exact Nat.le_refl _)
theorem extract_bs (s : ByteArray) (a b : Nat) : s.extract a b = bs (((L s).take b).drop a) := by
  apply ByteArray.ext
  simp [bs, L, ByteArray.data_extract]
  rw [← Array.toList_inj]
  simp [Array.toList_extract, List.drop_take]
theorem bs_inj {a b : List UInt8} : bs a = bs b ↔ a = b := ⟨fun h => by have := congrArg L h; exact this, fun h => by rw [h]⟩
theorem L_inj {a b : ByteArray} : L a = L b ↔ a = b := ⟨fun h => by have := congrArg bs h; exact this, fun h => by rw [h]⟩

theorem str_eq (a b : ByteArray) : (a.toList == b.toList) = decide (L a = L b) := by
  rw [ByteArray.toList_eq, ByteArray.toList_eq, Bool.eq_iff_iff]; simp [L]
theorem str_empty (a : ByteArray) : a.toList.isEmpty = decide (L a = []) := by
  rw [ByteArray.toList_eq, Bool.eq_iff_iff]; simp [L]
theorem toList_L (a : ByteArray) : a.toList = L a := ByteArray.toList_eq a

/-- for a loop's measure -/
def strLen : Value → Nat | .string b => b.size | _ => 0
theorem bs_zero_size {c : UInt8} {l : List UInt8} : 0 < (bs (c :: l)).size := by rw [size_bs]; simp
theorem bs_get0 {c : UInt8} {l : List UInt8} : (bs (c :: l))[0]'bs_zero_size = c := rfl
theorem bs_ne {c : UInt8} {l : List UInt8} : (bs (c :: l)).toList.isEmpty = false := by rw [toList_L]; rfl
theorem bs_ne' {c : UInt8} {l : List UInt8} : ¬ (bs (c :: l)).toList = [] := by rw [toList_L]; intro h; cases h
theorem bs_snoc_size {c : UInt8} {l : List UInt8} : (bs (l ++ [c])).size = l.length + 1 := by rw [size_bs]; simp
theorem bs_snoc_lt {c : UInt8} {l : List UInt8} : l.length < (bs (l ++ [c])).size := by rw [size_bs]; simp
theorem bs_snoc_get {c : UInt8} {l : List UInt8} : (bs (l ++ [c]))[l.length]'bs_snoc_lt = c := by
  have h : (l ++ [c])[l.length]'(by simp) = c := by simp
  exact h
theorem bs_snoc_ne {c : UInt8} {l : List UInt8} : (bs (l ++ [c])).toList.isEmpty = false := by rw [toList_L, L_bs]; simp
theorem bs_snoc_ne' {c : UInt8} {l : List UInt8} : ¬ (bs (l ++ [c])).toList = [] := by rw [toList_L, L_bs]; simp
theorem list_snoc (l : List UInt8) : l = [] ∨ ∃ m c, l = m ++ [c] := by
  rcases l.eq_nil_or_concat with h | ⟨m, c, h⟩
  · exact Or.inl h
  · exact Or.inr ⟨m, c, by simpa using h⟩
theorem bs_nil : (bs []).toList = [] := by rw [toList_L]; rfl
theorem bs_nil' : (bs []).toList.isEmpty = true := by rw [toList_L]; rfl
theorem extract_tail (s : ByteArray) (a : Nat) : s.extract a s.size = bs ((L s).drop a) := by
  rw [extract_bs, L_take_all]
theorem extract_head (s : ByteArray) (b : Nat) : s.extract 0 b = bs ((L s).take b) := by
  rw [extract_bs]; rfl

/-- A row of bytes at a block's head: its cells, none frozen. -/
structure ByteRow (w : World) (b : Nat) (l : List UInt8) : Prop where
  cell : ∀ j, j < l.length → w.cell? ⟨b, j, none⟩ = some (.int .u8 ((l.getD j 0).toNat : Int))
  free : ∀ j, j < l.length → w.frozen? ⟨b, j, none⟩ = false
  lt : b < w.heap.size

theorem ByteRow.set {w : World} {b : Nat} {l : List UInt8} (h : ByteRow w b l) (k : Nat) (hk : k < l.length) (x : UInt8) : ByteRow (w.setCell ⟨b, k, none⟩ (.int .u8 (x.toNat : Int))) b (l.set k x) where
  cell j hj := by
    rw [List.length_set] at hj
    by_cases e : j = k
    · subst e
      rw [World.cell?_setCell_same _ _ _ (h.cell j hj)]
      simp [List.getD, hj]
    · rw [World.cell?_setCell_other _ _ _ _ (by intro q; exact e (by injection q with _ q _; exact q.symm)), h.cell j hj]
      simp [List.getD, Ne.symm e]
  free j hj := by rw [List.length_set] at hj; simpa using h.free j hj
  lt := by simpa using h.lt
theorem ByteRow.drew {w : World} {b : Nat} {l : List UInt8} (h : ByteRow w b l) : ByteRow w.drew b l := ⟨h.cell, h.free, h.lt⟩

/-- '[]byte(s)'. -/
theorem conv_bytes {P : Program} (w : World) (src dst e : TypeId) (s : ByteArray) (hs : P.underlying src = some .string) (hd : P.underlying dst = some (.slice e)) (he : P.underlying e = some (.int .u8)) :
    ∃ (cap : Nat) (w1 : World), (convert src dst (.string s)).run P w = .ok (.slice (some ⟨w.heap.size, 0, none⟩) s.size cap) w1 ∧ Below w.heap.size w w1 ∧ ByteRow w1 w.heap.size (L s) ∧ s.size ≤ cap := by
  refine ⟨_, _, run_bytes_of_string w src dst e s hs hd he, ((Below.refl _ _).drew).alloc (by simp) _, ⟨?_, ?_, ?_⟩, ?_⟩
  · intro j hj
    rw [L_length] at hj
    have := World.cell?_alloc_mark w.drew (bytesRow s (grownCap w s.size 0 e)) e ((bytesRow s (grownCap w s.size 0 e)).size, (bytesRow s (grownCap w s.size 0 e)).size + 1) j
    refine this.trans ((bytesRow_at s _ j hj).trans ?_)
    have e1 : (L s).getD j 0 = s.data[j] := by
      show ((L s)[j]?).getD 0 = _
      rw [List.getElem?_eq_getElem (by rw [L_length]; exact hj)]; rfl
    rw [e1]
  · intro j hj
    rw [L_length] at hj
    have := World.frozen?_alloc_mark w.drew (bytesRow s (grownCap w s.size 0 e)) e (bytesRow s (grownCap w s.size 0 e)).size ((bytesRow s (grownCap w s.size 0 e)).size + 1) j
    refine this.trans ?_
    have h1 : s.size ≤ (bytesRow s (grownCap w s.size 0 e)).size := by
      unfold bytesRow; rw [Array.size_append, Array.size_map]; exact Nat.le_add_right _ _
    have h2 : ¬ (bytesRow s (grownCap w s.size 0 e)).size ≤ j := by omega
    rw [decide_eq_false h2]; rfl
  · show w.heap.size < (w.heap.push _).size
    rw [Array.size_push]; omega
  · exact grownCap_ge _ _ _ _
theorem conv_back {P : Program} {w : World} (src dst e : TypeId) {b cap n : Nat} {l : List UInt8} (h : ByteRow w b l) (hn : n = l.length) (hs : P.underlying src = some (.slice e)) (he : P.underlying e = some (.int .u8)) (hd : P.underlying dst = some .string) :
    (convert src dst (.slice (some ⟨b, 0, none⟩) n cap)).run P w = .ok (.string (bs l)) w := by
  subst hn
  refine run_convert_bytes_back w src dst e ⟨b, 0, none⟩ cap l hs he hd fun j hj => ?_
  have : (⟨b, 0, none⟩ : Addr).add j = ⟨b, j, none⟩ := by rw [Addr.add_lit, Nat.zero_add]
  rw [this, h.cell j hj]
  simp [List.getD, hj]
end Go.Proofs.YtkenianfpfamcaaGreatDoor
namespace Go.Proofs.YtkenianfpfamcaaGreatDoor
open Go Go.RowKit
set_option maxHeartbeats 1000000

def lowerB (c : UInt8) : UInt8 := if 65 ≤ c.toNat ∧ c.toNat ≤ 90 then c + 32 else c
def lower (l : List UInt8) : List UInt8 := l.map lowerB
theorem lower_length (l : List UInt8) : (lower l).length = l.length := by simp [lower]
/-- what has been made of a text behind k rounds -/
def lowT (l : List UInt8) (k : Nat) : List UInt8 := (l.take k).map lowerB ++ l.drop k
theorem lowT_length (l : List UInt8) (k : Nat) : (lowT l k).length = l.length := by simp [lowT]; omega
theorem lowT_zero (l : List UInt8) : lowT l 0 = l := by simp [lowT]
theorem lowT_all (l : List UInt8) (k : Nat) (h : l.length ≤ k) : lowT l k = lower l := by
  simp [lowT, lower, List.take_of_length_le h, List.drop_of_length_le h]
theorem lowT_succ (l : List UInt8) (k : Nat) (h : k < l.length) : lowT l (k + 1) = (lowT l k).set k (lowerB l[k]) := by
  unfold lowT
  rw [List.take_succ_eq_append_getElem h, List.drop_eq_getElem_cons h, List.map_append, List.set_append_right _ _ (by simp; omega), show k - (List.map lowerB (List.take k l)).length = 0 by simp; omega, List.set_cons_zero]
  simp
theorem lowT_get (l : List UInt8) (k : Nat) (h : k < l.length) : (lowT l k).getD k 0 = l[k] := by
  unfold lowT
  rw [List.getD, List.getElem?_append_right (by simp; omega)]
  simp [show k - min k l.length = 0 by omega, List.getElem?_eq_getElem h]
theorem lowT_same (l : List UInt8) (k : Nat) (h : k < l.length) (hs : lowerB l[k] = l[k]) : lowT l (k + 1) = lowT l k := by
  rw [lowT_succ l k h, hs]
  apply List.ext_getElem?
  intro i
  rw [List.getElem?_set]
  split
  · rename_i e; subst e
    have := lowT_get l k h
    rw [List.getD] at this
    cases hx : (lowT l k)[k]? with
    | none => rw [List.getElem?_eq_none_iff, lowT_length] at hx; omega
    | some x => rw [hx] at this; simp at this; subst this; simp [lowT_length, h]
  · rfl
theorem u8_up {x : UInt8} (h1 : 65 ≤ x.toNat) (h2 : x.toNat ≤ 90) : (x + 32).toNat = x.toNat + 32 := by
  rw [UInt8.toNat_add]; show (x.toNat + 32) % 256 = _; omega

theorem lower_any (s : ByteArray) (w : World) (hs : s.size ≤ maxLen) :
    Calls Tryz.prog 55 #[.string s] w fun e w' => e = .returned (.string (bs (lower (L s)))) ∧ Below w.heap.size w w' := by
  unfold maxLen at hs
  obtain ⟨cap, w1, hconv, hb1, hrow, hcap⟩ := conv_bytes (P := Tryz.prog) w 9 131 5 s Tryz.underlying9 Tryz.underlying131 Tryz.underlying5
  have hL := L_length s
  go_enter Tryz.func55, Tryz.ntmps55
  go_wp2_with fail
  clear hconv
  go_loopw [4, 5, 10] (fun _ _ i wr => ∃ k : Nat, k ≤ s.size ∧ i = .int .i64 k ∧ Hid (ByteRow wr w.heap.size (lowT (L s) k)) ∧ Below w.heap.size w wr) (fun _ _ i _ => s.size - (intOf i).toNat)
  case atStart => exact ⟨0, Nat.zero_le _, rfl, by rw [lowT_zero]; exact hrow, hb1⟩
  case round =>
    obtain ⟨k, hk, rfl, hr, hbr⟩ := hrel
    clear hrow hb1
    by_cases hlt : k < s.size
    · have hc := hr.out.cell k (by rw [lowT_length]; omega)
      have hf := hr.out.free k (by rw [lowT_length]; omega)
      rw [lowT_get _ _ (by omega)] at hc
      obtain ⟨x, hx⟩ := name_it ((L s)[k]'(by omega))
      rw [hx.out] at hc
      by_cases hup : (65 : Int) ≤ (x.toNat : Int) ∧ (x.toNat : Int) ≤ 90
      · obtain ⟨u1, u2⟩ := hup
        have hl : Hid (ByteRow (wr.setCell ⟨w.heap.size, k, none⟩ (.int .u8 ((x.toNat : Int) + 97 - 65))) w.heap.size (lowT (L s) (k + 1))) := by
          have h1 := hr.out.set k (by rw [lowT_length]; omega) (lowerB x)
          rw [lowT_succ _ _ (by omega), hx.out]
          have : ((lowerB x).toNat : Int) = (x.toNat : Int) + 97 - 65 := by
            unfold lowerB; rw [if_pos (by omega), u8_up (by omega) (by omega)]; omega
          rw [this] at h1
          exact h1
        go_wp2_with fail
        go_roundw
        case rel => exact ⟨k + 1, by omega, by go_num, hl, hbr.setCell (Nat.le_refl _) _⟩
        case measure => simp [intOf]; omega
      · have hl : Hid (ByteRow wr w.heap.size (lowT (L s) (k + 1))) := by
          rw [lowT_same _ _ (by omega) (by rw [hx.out]; unfold lowerB; rw [if_neg (by omega)])]
          exact hr.out
        have hup' : (x.toNat : Int) < 65 ∨ 90 < (x.toNat : Int) := by omega
        clear hup
        rcases hup' with hup | hup
        all_goals
          go_wp2_with fail
          all_goals
            go_roundw
            case rel => exact ⟨k + 1, by omega, by go_num, hl, hbr⟩
            case measure => simp [intOf]; omega
    · obtain rfl : k = s.size := by omega
      have hr2 := hr.out
      rw [lowT_all _ _ (by omega)] at hr2
      have hback := conv_back (P := Tryz.prog) 131 9 5 (cap := cap) (n := s.size) hr2 (by rw [lower_length]; omega) Tryz.underlying131 Tryz.underlying5 Tryz.underlying9
      clear hr2
      go_wp2_with fail
      go_ret
      exact ⟨rfl, hbr⟩
theorem rlower_any (s : ByteArray) (w : World) (hs : s.size ≤ maxLen) :
    Calls Tryz.prog 108 #[.string s] w fun e w' => e = .returned (.string (bs (lower (L s)))) ∧ Below w.heap.size w w' := by
  unfold maxLen at hs
  have s1 : (0 : Int) ≤ 1 := by omega
  have s2 : (0 : Int) ≤ 2 := by omega
  have s3 : (0 : Int) ≤ 3 := by omega
  obtain ⟨cap, w1, hconv, hb1, hrow, hcap⟩ := conv_bytes (P := Tryz.prog) w 9 131 5 s Tryz.underlying9 Tryz.underlying131 Tryz.underlying5
  have hL := L_length s
  go_enter Tryz.func108, Tryz.ntmps108
  go_wp2_with fail
  clear hconv
  go_loopw [4] (fun i wr => ∃ k : Nat, k ≤ s.size ∧ i = .int .i64 k ∧ Hid (ByteRow wr w.heap.size (lowT (L s) k)) ∧ Below w.heap.size w wr) (fun i _ => s.size - (intOf i).toNat)
  case atStart => exact ⟨0, Nat.zero_le _, rfl, by rw [lowT_zero]; exact hrow, hb1⟩
  case round =>
    obtain ⟨k, hk, rfl, hr, hbr⟩ := hrel
    clear hrow hb1
    by_cases hlt : k < s.size
    · have hc := hr.out.cell k (by rw [lowT_length]; omega)
      have hf := hr.out.free k (by rw [lowT_length]; omega)
      rw [lowT_get _ _ (by omega)] at hc
      obtain ⟨x, hx⟩ := name_it ((L s)[k]'(by omega))
      rw [hx.out] at hc
      by_cases hup : (65 : Int) ≤ (x.toNat : Int) ∧ (x.toNat : Int) ≤ 90
      · obtain ⟨u1, u2⟩ := hup
        have hl : Hid (ByteRow (wr.setCell ⟨w.heap.size, k, none⟩ (.int .u8 ((x.toNat : Int) + 32))) w.heap.size (lowT (L s) (k + 1))) := by
          have h1 := hr.out.set k (by rw [lowT_length]; omega) (lowerB x)
          rw [lowT_succ _ _ (by omega), hx.out]
          have : ((lowerB x).toNat : Int) = (x.toNat : Int) + 32 := by
            unfold lowerB; rw [if_pos (by omega), u8_up (by omega) (by omega)]; omega
          rw [this] at h1
          exact h1
        go_wp2_with fail
        go_roundw
        case rel => exact ⟨k + 1, by omega, by go_num, hl, hbr.setCell (Nat.le_refl _) _⟩
        case measure => simp [intOf]; omega
      · have hl : Hid (ByteRow wr w.heap.size (lowT (L s) (k + 1))) := by
          rw [lowT_same _ _ (by omega) (by rw [hx.out]; unfold lowerB; rw [if_neg (by omega)])]
          exact hr.out
        have hup' : (x.toNat : Int) < 65 ∨ 90 < (x.toNat : Int) := by omega
        clear hup
        rcases hup' with hup | hup
        all_goals
          go_wp2_with fail
          all_goals
            go_roundw
            case rel => exact ⟨k + 1, by omega, by go_num, hl, hbr⟩
            case measure => simp [intOf]; omega
    · obtain rfl : k = s.size := by omega
      have hr2 := hr.out
      rw [lowT_all _ _ (by omega)] at hr2
      have hback := conv_back (P := Tryz.prog) 131 9 5 (cap := cap) (n := s.size) hr2 (by rw [lower_length]; omega) Tryz.underlying131 Tryz.underlying5 Tryz.underlying9
      clear hr2
      go_wp2_with fail
      go_ret
      exact ⟨rfl, hbr⟩

end Go.Proofs.YtkenianfpfamcaaGreatDoor
namespace Go.Proofs.YtkenianfpfamcaaGreatDoor
open Go Go.RowKit
set_option maxHeartbeats 1000000

def isDig (c : UInt8) : Bool := decide (48 ≤ c.toNat ∧ c.toNat ≤ 57)
theorem isdigit_any (c : UInt8) (w : World) : Calls Tryz.prog 129 #[.int .u8 c.toNat] w fun e w' => e = .returned (.bool (isDig c)) ∧ w = w' := by
  obtain ⟨R, hR⟩ := name_it (isDig c)
  rw [hR.out]
  go_enter Tryz.func129, Tryz.ntmps129
  go_wp2
  all_goals go_ret
  all_goals exact ⟨ret_bool (by rw [← hR.out, Bool.eq_iff_iff]; simp [isDig]; omega), rfl⟩

def isFld (c : UInt8) : Bool := decide (c.toNat = 9 ∨ (32 ≤ c.toNat ∧ c.toNat ≠ 127))
def dg (c : UInt8) : Int := (c.toNat : Int) - 48
def valOf (l : List UInt8) : Int := l.foldl (fun n c => 10 * n + dg c) 0
theorem valOf_nil : valOf [] = 0 := rfl
theorem valOf_snoc (l : List UInt8) (c : UInt8) : valOf (l ++ [c]) = 10 * valOf l + dg c := by simp [valOf]
theorem dg_bd {c : UInt8} (h : isDig c = true) : 0 ≤ dg c ∧ dg c ≤ 9 := by simp [isDig] at h; unfold dg; omega
theorem valOf_nonneg : ∀ (l : List UInt8), l.all isDig = true → 0 ≤ valOf l := by
  intro l
  refine snoc_ind (P := fun l => l.all isDig = true → 0 ≤ valOf l) ?_ ?_ l
  · intro _; simp [valOf]
  · intro l c ih h
    simp only [List.all_append, Bool.and_eq_true, List.all_cons, List.all_nil, Bool.and_true] at h
    rw [valOf_snoc]
    have := ih h.1
    have := dg_bd h.2
    omega
theorem valOf_take (l : List UInt8) (h : l.all isDig = true) : ∀ k, valOf (l.take k) ≤ valOf l := by
  revert h
  refine snoc_ind (P := fun l => l.all isDig = true → ∀ k, valOf (l.take k) ≤ valOf l) ?_ ?_ l
  · intro _ k; simp
  · intro l c ih h k
    simp only [List.all_append, Bool.and_eq_true, List.all_cons, List.all_nil, Bool.and_true] at h
    by_cases hk : k ≤ l.length
    · rw [List.take_append_of_le_length hk, valOf_snoc]
      have := ih h.1 k
      have := valOf_nonneg l h.1
      have := dg_bd h.2
      omega
    · rw [List.take_of_length_le (by simp; omega)]; exact Int.le_refl _
def decE (l : List UInt8) (most : Int) : Int := if l = [] ∨ l.all isDig = false then 11 else if valOf l ≤ most then 0 else 12
def decN (l : List UInt8) (most : Int) : Int := if decE l most = 0 then valOf l else 0

def hexDigits : ByteArray := ⟨#[48, 49, 50, 51, 52, 53, 54, 55, 56, 57, 97, 98, 99, 100, 101, 102]⟩
def digIdx (x : UInt8) : Int := Lib.indexByte hexDigits.data.toList (lowerB x) -- 212
theorem digIdx_all : ∀ p : Fin 256, (isDig (UInt8.ofNat p.val) = true → digIdx (UInt8.ofNat p.val) = dg (UInt8.ofNat p.val)) ∧ (isDig (UInt8.ofNat p.val) = false → digIdx (UInt8.ofNat p.val) < 0 ∨ 10 ≤ digIdx (UInt8.ofNat p.val)) ∧ -1 ≤ digIdx (UInt8.ofNat p.val) ∧ digIdx (UInt8.ofNat p.val) ≤ 15 := by decide +kernel -- 212
theorem digIdx_of (x : UInt8) : (isDig x = true → digIdx x = dg x) ∧ (isDig x = false → digIdx x < 0 ∨ 10 ≤ digIdx x) ∧ -1 ≤ digIdx x ∧ digIdx x ≤ 15 := by -- 212
  have h := digIdx_all ⟨x.toNat, UInt8.toNat_lt x⟩
  simpa using h
theorem index_hex (x : UInt8) (w : World) : Calls Tryz.prog 212 #[.string hexDigits, .int .u8 ((lowerB x).toNat : Int)] w fun e w' => e = .returned (.int .i64 (digIdx x)) ∧ w = w' := by
  refine (Tryz.strings_IndexByte hexDigits ((lowerB x).toNat : Int) w).mono ?_
  rintro e w' ⟨rfl, rfl⟩
  refine ⟨ret_int ?_, rfl⟩
  unfold digIdx
  simp

theorem lower_one (x : UInt8) (w : World) : Calls Tryz.prog 55 #[.string (bs [x])] w fun e w' => e = .returned (.string (bs [lowerB x])) ∧ Below w.heap.size w w' :=
  lower_any (bs [x]) w (by rw [size_bs]; unfold maxLen; simp)
theorem one_size (x : UInt8) : 0 < (bs [x]).size := by rw [size_bs]; simp
theorem one_get (x : UInt8) (h : 0 < (bs [x]).size) : (bs [x])[0] = x := rfl
theorem number_any (s : ByteArray) (most : Int) (w : World) (hs : s.size ≤ maxLen) (m0 : 0 ≤ most) (m1 : most ≤ 4611686018427387904) :
    Calls Tryz.prog 193 #[.string s, .int .i64 most, .int .i64 10] w fun e w' => e = .returned (.tuple #[.int .i64 (decN (L s) most), .int .i64 (decE (L s) most)]) ∧ Below w.heap.size w w' := by
  unfold maxLen at hs
  obtain ⟨N, hN⟩ := name_it (decN (L s) most)
  obtain ⟨E, hE⟩ := name_it (decE (L s) most)
  rw [hN.out, hE.out]
  have hL := L_length s
  by_cases he : s.size = 0
  · have hl : L s = [] := List.eq_nil_of_length_eq_zero (by omega)
    have h1 : s.toList = [] := by rw [toList_L]; exact hl
    have ho : Hid (N = 0 ∧ E = 11) := by
      rw [← hN.out, ← hE.out]; simp [decN, decE, hl, Hid]
    clear hN hE hl
    go_enter Tryz.func193, Tryz.ntmps193
    go_wp2_with fail
    go_ret2
    exact ⟨by rw [ho.out.1, ho.out.2]; rfl, Below.refl _ _⟩
  · have h1 : s.toList.isEmpty = false := by
      rw [str_empty]; exact decide_eq_false (fun h => he (by rw [← hL, h]; rfl))
    have h2 : s.toList ≠ [] := by rw [toList_L]; intro h; exact he (by rw [← hL, h]; rfl)
    have hm : decide (most < 0) = false := decide_eq_false (by omega)
    go_enter Tryz.func193, Tryz.ntmps193
    go_wp2_with fail
    clear h1 h2 hm
    have HN := Lib.hid hN; have HE := Lib.hid hE
    clear hN hE
    go_loopw [8, 9, 10, 11, 18] (fun n b _ _ i wr => ∃ k : Nat, k ≤ s.size ∧ i = .int .i64 k ∧ Hid (((L s).take k).all isDig = true) ∧
        (∃ (v : Int) (big : Bool), n = .int .i64 v ∧ b = .bool big ∧ 0 ≤ v ∧ v ≤ most ∧ Hid (if big = true then most < valOf ((L s).take k) else v = valOf ((L s).take k))) ∧ Below w.heap.size w wr) (fun _ _ _ _ i _ => s.size - (intOf i).toNat)
    case atStart => exact ⟨0, Nat.zero_le _, rfl, Lib.hid rfl, ⟨0, false, rfl, rfl, Int.le_refl _, m0, Lib.hid rfl⟩, Below.refl _ _⟩
    case round =>
      obtain ⟨k, hk, rfl, had, ⟨v, big, rfl, rfl, v0, v1, hv⟩, hbr⟩ := hrel
      by_cases hlt : k < s.size
      · have hx : Hid (s.extract k (k + 1) = bs [s[k]]) := by
          unfold Hid; rw [extract_bs, L_take hlt, List.drop_append_of_le_length (by rw [List.length_take]; omega), List.drop_of_length_le (by rw [List.length_take]; omega)]; rfl
        obtain ⟨x, hx1⟩ := name_it s[k]
        have hx2 : Hid (s.extract k (k + 1) = bs [x]) := by rw [← hx1.out]; exact hx
        have htk : Hid ((L s).take (k + 1) = (L s).take k ++ [x]) := by rw [← hx1.out]; exact L_take hlt
        clear hx hx1
        have hd := digIdx_of x
        obtain ⟨d, hdd⟩ := name_it (digIdx x)
        rw [hdd.out] at hd
        have hd1 := hd.2.2.1
        have hd2 := hd.2.2.2
        have HD := Lib.hid hd; clear hd
        go_wp2_with fail
        rw [hx2.out]
        refine (lower_one x _).mono ?_; rintro e w1 ⟨rfl, hb1⟩
        have hsz := one_size (lowerB x)
        have hget := one_get (lowerB x) hsz
        go_wp2_with fail
        refine (index_hex x _).mono ?_; rintro e w2 ⟨rfl, rfl⟩
        rw [hdd.out]
        have hb2 := hbr.trans (hb1.mono hbr.size)
        clear hget hsz hb1 hbr
        cases hdig : isDig x
        · have hD := HD.out.2.1 hdig
          have hfin : Hid (N = 0 ∧ E = 11) := by
            have hall : (L s).all isDig = false := by
              rw [Bool.eq_false_iff]; intro h
              rw [List.all_eq_true] at h
              have : x ∈ L s := List.mem_of_mem_take (i := k + 1) (by rw [htk.out]; simp)
              rw [h x this] at hdig; cases hdig
            rw [← HN.out.out, ← HE.out.out]; simp [decN, decE, hall, Hid]
          clear hdig HD HN HE hv htk had
          rcases hD with hD | hD
          all_goals
            go_wp2_with fail
            go_ret2
            exact ⟨by rw [hfin.out.1, hfin.out.2]; rfl, hb2⟩
        · have hD := HD.out.1 hdig
          have hdb := dg_bd hdig
          rw [← hD] at hdb
          have had' : Hid (((L s).take (k + 1)).all isDig = true) := by
            unfold Hid; rw [htk.out, List.all_append, had.out]; simp [hdig]
          have hval : Hid (valOf ((L s).take (k + 1)) = 10 * valOf ((L s).take k) + d) := by
            unfold Hid; rw [htk.out, valOf_snoc, hD]
          have hvn : Hid (0 ≤ valOf ((L s).take k)) := valOf_nonneg _ had.out
          clear hD hdig HD htk had
          cases big
          · have hv' : v = valOf ((L s).take k) := by simpa using hv.out
            have Hv := Lib.hid hv'; clear hv hv'
            by_cases hfit : 10 * v + d ≤ most
            · go_wp2_with fail
              go_roundw
              case rel => exact ⟨k + 1, by omega, by go_num, had', ⟨v * 10 + d, false, rfl, rfl, by omega, by omega, by unfold Hid; rw [hval.out, ← Hv.out]; simp; omega⟩, hb2⟩
              case measure => simp [intOf]; omega
            · have hfit' : most < 10 * v + d := by omega
              clear hfit
              by_cases hq : most / 10 < v
              all_goals
                go_wp2_with fail
                all_goals (try (exfalso; omega))
                go_roundw
                case rel => exact ⟨k + 1, by omega, by go_num, had', ⟨v, true, rfl, rfl, by omega, by omega, by unfold Hid; rw [hval.out, ← Hv.out]; simp; omega⟩, hb2⟩
                case measure => simp [intOf]; omega
          · have hv' : most < valOf ((L s).take k) := by simpa using hv.out
            have Hv := Lib.hid hv'; clear hv hv'
            go_wp2_with fail
            all_goals (try (exfalso; omega))
            go_roundw
            case rel => exact ⟨k + 1, by omega, by go_num, had', ⟨v, true, rfl, rfl, by omega, by omega, by have h1 := hval.out; have h2 := Hv.out; have h3 := hvn.out; unfold Hid; simp; omega⟩, hb2⟩
            case measure => simp [intOf]; omega
      · obtain rfl : k = s.size := by omega
        rw [L_take_all] at had hv
        have hfin : Hid (if big = true then N = 0 ∧ E = 12 else N = v ∧ E = 0) := by
          have hne : L s ≠ [] := fun h => he (by rw [← hL, h]; rfl)
          rw [← HN.out.out, ← HE.out.out]
          have h1 := hv.out
          unfold Hid
          cases big <;> simp at h1 ⊢
          · have : decE (L s) most = 0 := by simp [decE, hne, had.out]; omega
            exact ⟨by simp [decN, this, h1], this⟩
          · have : decE (L s) most = 12 := by simp [decE, hne, had.out]; omega
            exact ⟨by simp [decN, this], this⟩
        clear HN HE hv had
        cases big
        all_goals
          go_wp2_with fail
          go_ret2
          have h1 := hfin.out
          simp at h1
          exact ⟨by rw [h1.1, h1.2]; rfl, hbr⟩
theorem decimal_any (s : ByteArray) (most : Int) (w : World) (hs : s.size ≤ maxLen) (m0 : 0 ≤ most) (m1 : most ≤ 4611686018427387904) :
    Calls Tryz.prog 147 #[.string s, .int .i64 most] w fun e w' => e = .returned (.tuple #[.int .i64 (decN (L s) most), .int .i64 (decE (L s) most)]) ∧ Below w.heap.size w w' := by
  go_enter Tryz.func147, Tryz.ntmps147
  go_wp2_with fail
  refine (number_any s most _ hs m0 m1).mono ?_; rintro e w1 ⟨rfl, hb1⟩
  go_wp2_with fail
  go_ret2
  exact ⟨rfl, hb1⟩
end Go.Proofs.YtkenianfpfamcaaGreatDoor
namespace Go.Proofs.YtkenianfpfamcaaGreatDoor
open Go Go.RowKit

/-- a place in a text, and whether reading went wrong there -/
abbrev St := Nat × Bool
def litS (S : List UInt8) : List UInt8 → St → St
  | [], st => st
  | c :: t, st => if st.2 = true then st else if S[st.1]? = some c then litS S t (st.1 + 1, false) else (st.1, true)
theorem litS_bad (S : List UInt8) (t : List UInt8) (n : Nat) : litS S t (n, true) = (n, true) := by
  cases t with
  | nil => rfl
  | cons c t => rw [litS, if_pos rfl]
theorem litS_le (S : List UInt8) : ∀ (t : List UInt8) (st : St), st.1 ≤ S.length → st.1 ≤ (litS S t st).1 ∧ (litS S t st).1 ≤ S.length
  | [], st, h => ⟨Nat.le_refl _, h⟩
  | c :: t, st, h => by
    rw [litS]
    split
    · exact ⟨Nat.le_refl _, h⟩
    · split
      · rename_i hc
        have hlt : st.1 < S.length := (List.getElem?_eq_some_iff.1 hc).1
        have := litS_le S t (st.1 + 1, false) (by show st.1 + 1 ≤ _; omega)
        exact ⟨by have := this.1; simp only at this; omega, this.2⟩
      · exact ⟨Nat.le_refl _, h⟩
/-- how many bytes of a kind stand at the front, at most so many -/
def runK (may : UInt8 → Bool) : Nat → List UInt8 → Nat
  | 0, _ => 0
  | _ + 1, [] => 0
  | m + 1, c :: r => if may c = true then runK may m r + 1 else 0
theorem runK_le (may : UInt8 → Bool) : ∀ (m : Nat) (l : List UInt8), runK may m l ≤ m ∧ runK may m l ≤ l.length
  | 0, _ => ⟨Nat.le_refl _, Nat.zero_le _⟩
  | _ + 1, [] => ⟨Nat.zero_le _, Nat.le_refl _⟩
  | m + 1, c :: r => by
    rw [runK]
    have := runK_le may m r
    split
    · rw [List.length_cons]; omega
    · omega
def runS (S : List UInt8) (may : UInt8 → Bool) (m : Nat) (st : St) : St :=
  if st.2 = true then st else (st.1 + runK may m (S.drop st.1), decide (runK may m (S.drop st.1) = 0))
def mostI : Int := 9223372036854775807
/-- the digits at the front: what they say, how many were read, whether it went wrong -/
def numK : List UInt8 → Int → Nat → Int × Nat × Bool
  | [], v, k => (v, k, decide (k = 0))
  | c :: r, v, k =>
    if isDig c = true then
      if (0 < k ∧ v = 0) ∨ (mostI - dg c) / 10 < v then (0, k, true) else numK r (10 * v + dg c) (k + 1)
    else (v, k, decide (k = 0))
def numS (S : List UInt8) (st : St) : Int × St :=
  if st.2 = true then (0, st) else ((numK (S.drop st.1) 0 0).1, (st.1 + (numK (S.drop st.1) 0 0).2.1, (numK (S.drop st.1) 0 0).2.2))
def tgtB (c : UInt8) : Bool := decide (33 ≤ c.toNat ∧ c.toNat ≤ 126)
/-- the bytes of a quoted target: what they say, how many were read, whether it went wrong -/
def tgtK : List UInt8 → List UInt8 → Nat → List UInt8 × Nat × Bool
  | [], out, k => (out, k, false)
  | c :: r, out, k =>
    if c = 34 then (out, k, false)
    else if tgtB c = false ∨ out.length = 65536 then (out, k, true)
    else if c = 92 then
      match r with
      | [] => (out, k + 1, true)
      | d :: r' => if d ≠ 34 ∧ d ≠ 92 then (out, k + 1, true) else tgtK r' (out ++ [d]) (k + 2)
    else tgtK r (out ++ [c]) (k + 1)
def tgtS (S : List UInt8) (st : St) : List UInt8 × St :=
  let a := litS S [34] st
  if a.2 = true then ([], a)
  else
    let q := tgtK (S.drop a.1) [] 0
    (q.1, litS S [34] (a.1 + q.2.1, q.2.2 || decide (q.1 = [])))
/-- three digits, the first from 1 to 5 -/
def stK : Nat → List UInt8 → Int → Nat → Int × Nat × Bool
  | 0, _, v, k => (v, k, false)
  | _ + 1, [], _, k => (0, k, true)
  | m + 1, c :: r, v, k => if isDig c = false ∨ (k = 0 ∧ ¬ (49 ≤ c.toNat ∧ c.toNat ≤ 53)) then (0, k, true) else stK m r (10 * v + dg c) (k + 1)
def stS (S : List UInt8) (st : St) : Int × St :=
  if st.2 = true then (0, st) else ((stK 3 (S.drop st.1) 0 0).1, (st.1 + (stK 3 (S.drop st.1) 0 0).2.1, (stK 3 (S.drop st.1) 0 0).2.2))
theorem numK_le : ∀ (r : List UInt8) (v : Int) (k : Nat), k ≤ (numK r v k).2.1 ∧ (numK r v k).2.1 ≤ k + r.length
  | [], v, k => ⟨Nat.le_refl _, Nat.le_refl _⟩
  | c :: r, v, k => by
    rw [numK]
    have ih := numK_le r (10 * v + dg c) (k + 1)
    rw [List.length_cons]
    split
    · split
      · exact ⟨Nat.le_refl _, Nat.le_add_right _ _⟩
      · omega
    · exact ⟨Nat.le_refl _, Nat.le_add_right _ _⟩
theorem numK_ok : ∀ (r : List UInt8) (v : Int) (k : Nat) (x : Int) (m : Nat), numK r v k = (x, m, false) → 0 ≤ v → v ≤ mostI →
    ∃ d, r = d ++ r.drop d.length ∧ d.all isDig = true ∧ m = k + d.length ∧ x = d.foldl (fun n c => 10 * n + dg c) v ∧ 0 ≤ x ∧ x ≤ mostI ∧ 0 < m ∧ (0 < k → v = 0 → d = []) ∧ (k = 0 → v = 0 → d.length ≤ 1 ∨ d.head? ≠ some 48)
  | [], v, k, x, m, h, h0, h1 => by
    rw [numK] at h
    injection h with hx h
    injection h with hm hb
    have hk := of_decide_eq_false hb
    exact ⟨[], rfl, rfl, hm.symm, hx.symm, by omega, by omega, by omega, fun _ _ => rfl, fun _ _ => Or.inl (Nat.zero_le _)⟩
  | c :: r, v, k, x, m, h, h0, h1 => by
    rw [numK] at h
    split at h
    · rename_i hd
      have hb := dg_bd hd
      split at h
      · injection h with _ h; injection h with _ h; cases h
      · rename_i hno
        have hle : ¬ (mostI - dg c) / 10 < v := fun h => hno (Or.inr h)
        have hz : ¬ (0 < k ∧ v = 0) := fun h => hno (Or.inl h)
        obtain ⟨d, e1, e2, e3, e4, e5, e6, e7, e8, e9⟩ := numK_ok r (10 * v + dg c) (k + 1) x m h (by omega) (by unfold mostI at hle ⊢; omega)
        refine ⟨c :: d, ?_, ?_, ?_, ?_, e5, e6, e7, ?_, ?_⟩
        · rw [List.length_cons, List.drop_succ_cons, List.cons_append, ← e1]
        · rw [List.all_cons, hd, e2]; rfl
        · rw [List.length_cons]; omega
        · rw [List.foldl_cons]; exact e4
        · intro hk hv; exact absurd ⟨hk, hv⟩ hz
        · intro hk hv
          by_cases hc : dg c = 0
          · left
            rw [e8 (by omega) (by omega)]
            exact Nat.le_refl _
          · right
            rw [List.head?_cons]
            intro e
            injection e with e
            subst e
            exact hc rfl
    · injection h with hx h
      injection h with hm hb
      have hk := of_decide_eq_false hb
      exact ⟨[], rfl, rfl, hm.symm, hx.symm, by omega, by omega, by omega, fun _ _ => rfl, fun _ _ => Or.inl (Nat.zero_le _)⟩
end Go.Proofs.YtkenianfpfamcaaGreatDoor
namespace Go.Proofs.YtkenianfpfamcaaGreatDoor
open Go Go.RowKit

theorem own_below {w w' : World} {base : Nat} {v : Value} {e : TypeId} {size n : Nat} {xs : List Value} (hown : w.ownsRow base e size v n xs) (hg : w.grownBy w' v.ownBlock) (hbase : base ≤ w.heap.size) : Below base w w' :=
  (Below.refl base w).grown hg hbase (fun k hk => (hown.lt k hk).1)

/-- 'append(v, x)', x of one cell, v of the call's own; the translation lays x in a block of its own ahead. -/
theorem append1 {P : Program} {w : World} {ops : Array Oper} {rest : List Oper} {o : Oper} {a : Act} {Q : Exit → Act → World → Prop} (hgd : o.guard = none) (s x : Operand) (t : TypeId)
    (ho : o.op = .call { callee := .builtin .append, args := #[s, x], argTypes := #[t, t] })
    (base : Nat) (e : TypeId) (i : TypeInfo) (z : Value) (bytes : Nat) (ht : P.underlying t = some (.slice e)) (hi : P.info? e = some i) (hz : i.zero = some z)
    (hsize : i.size = 1) (hby : i.bytes = bytes) (hzs : z.cells.size = 1)
    {v : Value} {n : Nat} {xs : List Value} (hown : w.ownsRow base e 1 v n xs) (hs : a.eval s = v)
    (u : Value) (hu : u.oneCell' = true) (hx : a.eval x = .slice (some ⟨w.heap.size, 0, none⟩) 1 1)
    (hn : n + 1 ≤ maxLen) (hbytes : (n + 1) * bytes ≤ 140737488355328) (hbase : base ≤ w.heap.size)
    (h : ∀ g cap w', base ≤ g → w'.ownsRow base e 1 (.slice (some ⟨g, 0, none⟩) (n + 1) cap) (n + 1) (xs ++ [u]) → Below base w w' → wpList P ops Q rest (a.put o.dst (.slice (some ⟨g, 0, none⟩) (n + 1) cap)) w') :
    wpList P ops Q (o :: rest) a (w.alloc (.cells #[u] e)) := by
  have hw : base ≤ (w.alloc (.cells #[u] e)).heap.size := by
    show base ≤ (w.heap.push _).size
    rw [Array.size_push]; omega
  refine wpList_append_own (w.alloc (.cells #[u] e)) hgd s x t ho base e i z 1 bytes ht hi hz hsize hby hzs (by decide) v n xs hs (hown.alloc _) ⟨w.heap.size, 0, none⟩ 1 1 [u] hx rfl ?_ ?_ hn hbytes hw ?_
  · intro j y hj
    match j, hj with
    | 0, hj =>
      simp at hj; subst hj
      rw [Addr.add_lit]
      exact World.cell?_alloc_mark w #[u] e (0, 0) 0
  · intro y hy; simp at hy; subst hy; exact hu
  · intro v' w' hown' hgrow _
    rcases hown'.2 with ⟨_, h0⟩ | ⟨g, cap, cur, rfl, hg, _⟩
    · omega
    · exact h g cap w' hg hown' (((Below.refl _ _).alloc hbase _).trans (own_below (hown.alloc _) hgrow hw))

/-- '[]T{}' : the empty row that the translation lays. -/
theorem own_empty (w : World) (base : Nat) (e : TypeId) (hb : base ≤ w.heap.size) : (w.alloc (.cells #[] e)).ownsRow base e 1 (.slice (some ⟨w.heap.size, 0, none⟩) 0 0) 0 [] :=
  World.ownsRow_lit w #[] 0 hb (by unfold maxLen; omega) rfl

/-- string(v), v a row of bytes of the call's own. -/
theorem own_string {P : Program} {w : World} (src dst e : TypeId) {base n : Nat} {v : Value} {l : List UInt8} (h : w.ownsRow base e 1 v n (l.map fun c => Value.int .u8 (c.toNat : Int))) (hs : P.underlying src = some (.slice e)) (he : P.underlying e = some (.int .u8)) (hd : P.underlying dst = some .string) :
    (convert src dst v).run P w = .ok (.string (bs l)) w := by
  have hlen : n = l.length := by have := h.1; simp at this; omega
  rcases h.2 with ⟨rfl, h0⟩ | ⟨g, cap, cur, rfl, _⟩
  · have : l = [] := List.eq_nil_of_length_eq_zero (by omega)
    subst this
    exact run_convert_bytes_nil w src e hs he 0 0 dst hd
  · subst hlen
    refine run_convert_bytes_back w src dst e ⟨g, 0, none⟩ cap l hs he hd fun j hj => ?_
    have : (⟨g, 0, none⟩ : Addr).add j = ⟨g, j, none⟩ := by rw [Addr.add_lit, Nat.zero_add]
    rw [this, h.cellAt j (by omega)]
    simp [hj]
end Go.Proofs.YtkenianfpfamcaaGreatDoor
namespace Go.Proofs.YtkenianfpfamcaaGreatDoor
open Go Go.RowKit
set_option maxHeartbeats 2000000

/-- the digits of a number's amount; none of 0 -/
def absD (n : Int) : List UInt8 := if n = 0 then [] else Lib.decDigits n.natAbs
def digC (n : Nat) : UInt8 := UInt8.ofNat (48 + n % 10)
theorem digC_toNat (n : Nat) : ((digC n).toNat : Int) = 48 + ((n % 10 : Nat) : Int) := by
  unfold digC
  rw [UInt8.toNat_ofNat']
  omega
theorem decDigits_step (u : Nat) : Lib.decDigits u = (if u / 10 = 0 then [] else Lib.decDigits (u / 10)) ++ [digC u] := by
  rw [Lib.decDigits]
  unfold digC
  by_cases h : u < 10
  · rw [dif_pos h, if_pos (by omega), Nat.mod_eq_of_lt h]; rfl
  · rw [dif_neg h, if_neg (by omega)]
theorem absD_step (n : Int) (h : n ≠ 0) : absD n = absD (n.tdiv 10) ++ [digC n.natAbs] := by
  have e : (n.tdiv 10).natAbs = n.natAbs / 10 := by rw [Int.natAbs_tdiv]; rfl
  unfold absD
  rw [if_neg h, decDigits_step, e]
  congr 1
  by_cases h0 : n.natAbs / 10 = 0
  · rw [if_pos h0, if_pos (by omega)]
  · rw [if_neg h0, if_neg (by omega)]
theorem itoa_abs (n : Int) (h : n ≠ 0) : Lib.itoa n = if n < 0 then 45 :: absD n else absD n := by
  unfold Lib.itoa absD
  by_cases h0 : n < 0
  · rw [if_pos h0, if_pos h0, if_neg h]
  · rw [if_neg h0, if_neg h0, if_neg h, show n.toNat = n.natAbs by omega]

set_option maxRecDepth 100000 in
theorem rdigits_any (N : Int) (w : World) (h0 : -9223372036854775808 ≤ N) (h1 : N ≤ 9223372036854775807) :
    Calls Tryz.prog 61 #[.int .i64 N] w fun e w' => e = .returned (.string (bs (Lib.itoa N))) ∧ Below w.heap.size w w' := by
  have hlen := Lib.itoa_length_le N h0 h1
  obtain ⟨R, hR⟩ := name_it (Lib.itoa N)
  rw [hR.out] at hlen ⊢
  by_cases hz : N = 0
  · subst hz
    have hr : Hid (R = [48]) := by rw [← hR.out]; unfold Hid Lib.itoa; rw [if_neg (by omega)]; exact Lib.decDigits_one (by decide)
    go_enter Tryz.func61, Tryz.ntmps61
    go_wp2_with fail
    all_goals (try (exfalso; omega))
    go_ret
    exact ⟨by rw [hr.out]; rfl, Below.refl _ _⟩
  · have hia := itoa_abs N hz
    rw [hR.out] at hia
    have hA := Lib.hid hia
    clear hia
    obtain ⟨D, hD⟩ := name_it (absD N)
    rw [hD.out] at hA
    have hDl : D.length ≤ 21 := by
      have := hA.out
      by_cases hn : N < 0
      · rw [if_pos hn] at this; rw [this] at hlen; simp at hlen; omega
      · rw [if_neg hn] at this; rw [this] at hlen; exact hlen
    go_enter Tryz.func61, Tryz.ntmps61
    go_wp2_with fail
    all_goals (try (exfalso; omega))
    go_loopw [0, 4] (fun n out wr => ∃ (m : Int) (o : List UInt8), n = .int .i64 m ∧ out = .string (bs o) ∧ (N < 0 → m ≤ 0) ∧ (0 ≤ N → 0 ≤ m) ∧ -9223372036854775808 ≤ m ∧ m ≤ 9223372036854775807 ∧ Hid (absD m ++ o = D) ∧ Below w.heap.size w wr) (fun n _ _ => (intOf n).natAbs)
    case atStart => exact ⟨N, [], rfl, rfl, by omega, by omega, by omega, by omega, by unfold Hid; rw [List.append_nil]; exact hD.out, Below.refl _ _⟩
    case round =>
      obtain ⟨m, o, rfl, rfl, hm1, hm2, hm3, hm4, hmo, hbr⟩ := hrel
      by_cases hm : m = 0
      · have ho : Hid (o = D) := by
          have := hmo.out; subst hm; exact this
        have hob : (bs o).size ≤ 21 := by rw [size_bs, ho.out]; exact hDl
        have hd0 : (decide (N < 0)) = true ∨ (decide (N < 0)) = false := by cases decide (N < 0) <;> simp
        subst hm
        rcases hd0 with hd | hd
        · have hn : N < 0 := of_decide_eq_true hd
          go_wp2_with fail
          all_goals (try (exfalso; omega))
          go_ret
          have := hA.out
          rw [if_pos hn] at this
          exact ⟨by rw [this, ho.out]; rfl, hbr⟩
        · have hn : ¬ N < 0 := of_decide_eq_false hd
          go_wp2_with fail
          all_goals (try (exfalso; omega))
          go_ret
          have := hA.out
          rw [if_neg (by omega)] at this
          exact ⟨by rw [this, ho.out]; rfl, hbr⟩
      · have hst := absD_step m hm
        obtain ⟨c, hc⟩ := name_it (digC m.natAbs)
        have hcn := digC_toNat m.natAbs
        rw [hc.out] at hcn hst
        obtain ⟨p, hp⟩ := name_it (m.tdiv 10)
        obtain ⟨r, hr⟩ := name_it (m.tmod 10)
        rw [hp.out] at hst
        have hmd := Int.tmod_add_mul_tdiv m 10
        rw [hp.out, hr.out] at hmd
        have hmo2 : Hid (absD p ++ (c :: o) = D) := by
          have := hmo.out
          rw [hst] at this
          rw [← this, List.append_assoc]; rfl
        have hol : (c :: o).length ≤ 21 := by
          have := congrArg List.length hmo2.out
          rw [List.length_append] at this; omega
        have hra : r.natAbs = m.natAbs % 10 := by rw [← hr.out, Int.natAbs_tmod]; rfl
        have hp' : m.tdiv 10 = p := hp.out
        have hr' : m.tmod 10 = r := hr.out
        have hsg : (0 ≤ m → 0 ≤ r) ∧ (m ≤ 0 → r ≤ 0) := by
          rw [← hr']
          exact ⟨fun h => Int.tmod_nonneg _ h, fun h => by
            have := Int.tmod_nonneg 10 (a := -m) (by omega)
            rw [Int.neg_tmod] at this; omega⟩
        have hob : (bs o).size ≤ 20 := by rw [size_bs]; simp at hol; omega
        have hpb : p.natAbs < m.natAbs := by rw [← hp', Int.natAbs_tdiv]; show m.natAbs / 10 < m.natAbs; omega
        have hcc : bs (c :: o) = bs [c] ++ bs o := rfl
        clear hst hr hp hc hmo
        have hbw := hbr.alloc hbr.size (.cells #[.int .u8 (c.toNat : Int)] 5)
        have hconv : (convert 131 9 (.slice (some ⟨wr.heap.size, 0, none⟩) 1 1)).run Tryz.prog (wr.alloc (.cells #[.int .u8 (c.toNat : Int)] 5)) = .ok (.string (bs [c])) (wr.alloc (.cells #[.int .u8 (c.toNat : Int)] 5)) :=
          own_string 131 9 5 (base := wr.heap.size) (l := [c]) (World.ownsRow_lit wr #[.int .u8 (c.toNat : Int)] 1 (Nat.le_refl _) (by unfold maxLen; omega) rfl) Tryz.underlying131 Tryz.underlying5 Tryz.underlying9
        have hb1 : (bs [c]).size = 1 := rfl
        by_cases hrn : r < 0
        · have hce : (c.toNat : Int) = 48 + -r := by omega
          rw [hce] at hconv hbw
          go_wp2_with fail
          all_goals (try (exfalso; omega))
          go_roundw
          case rel => exact ⟨p, c :: o, rfl, by rw [hcc], by omega, by omega, by omega, by omega, hmo2, hbw⟩
          case measure => simp [intOf]; omega
        · have hce : (c.toNat : Int) = 48 + r := by omega
          rw [hce] at hconv hbw
          go_wp2_with fail
          all_goals (try (exfalso; omega))
          go_roundw
          case rel => exact ⟨p, c :: o, rfl, by rw [hcc], by omega, by omega, by omega, by omega, hmo2, hbw⟩
          case measure => simp [intOf]; omega
end Go.Proofs.YtkenianfpfamcaaGreatDoor
namespace Go.Proofs.YtkenianfpfamcaaGreatDoor
open Go Go.RowKit

theorem digC_facts (u : Nat) : isDig (digC u) = true ∧ dg (digC u) = ((u % 10 : Nat) : Int) := by
  have h := digC_toNat u
  have h2 : u % 10 < 10 := Nat.mod_lt _ (by decide)
  unfold isDig dg
  exact ⟨decide_eq_true (by omega), by omega⟩
theorem val_dec (u : Nat) : valOf (Lib.decDigits u) = u ∧ (Lib.decDigits u).all isDig = true ∧ Lib.decDigits u ≠ [] := by
  induction u using Nat.strongRecOn with
  | _ u ih =>
    obtain ⟨k1, k2⟩ := digC_facts u
    rw [decDigits_step]
    by_cases h : u / 10 = 0
    · rw [if_pos h]
      refine ⟨?_, by simp [k1], by simp⟩
      rw [valOf_snoc, valOf_nil, k2]; omega
    · rw [if_neg h]
      obtain ⟨i1, i2, -⟩ := ih (u / 10) (by omega)
      refine ⟨?_, by rw [List.all_append, i2]; simp [k1], by simp⟩
      rw [valOf_snoc, i1, k2]; omega
theorem dec_len : ∀ (k u : Nat), 10 ^ k ≤ u → u < 10 ^ (k + 1) → (Lib.decDigits u).length = k + 1
  | 0, u, _, h => by
    rw [decDigits_step, if_pos (by omega)]; rfl
  | k + 1, u, h0, h1 => by
    have e0 : 10 ^ (k + 1) = 10 * 10 ^ k := by rw [Nat.pow_succ, Nat.mul_comm]
    have e1 : 10 ^ (k + 1 + 1) = 10 * 10 ^ (k + 1) := by rw [Nat.pow_succ, Nat.mul_comm]
    have hp : 0 < 10 ^ k := Nat.pos_of_ne_zero (by simp)
    rw [decDigits_step, if_neg (by omega), List.length_append, dec_len k (u / 10) (by omega) (by omega)]; rfl
theorem itoa_nat (n : Nat) : Lib.itoa n = Lib.decDigits n := by
  unfold Lib.itoa; rw [if_neg (by omega)]; rfl

theorem pig : ∀ (m : Nat) (f : Nat → Nat), (∀ i, i ≤ m → f i < m) → ∃ i j, i < j ∧ j ≤ m ∧ f i = f j
  | 0, f, h => absurd (h 0 (Nat.le_refl _)) (by omega)
  | m + 1, f, h => by
    by_cases hx : ∃ i, i ≤ m ∧ f i = f (m + 1)
    · obtain ⟨i, hi, he⟩ := hx
      exact ⟨i, m + 1, by omega, Nat.le_refl _, he⟩
    · have hn : ∀ i, i ≤ m → f i ≠ f (m + 1) := fun i hi he => hx ⟨i, hi, he⟩
      have hl := h (m + 1) (Nat.le_refl _)
      obtain ⟨i, j, hij, hj, he⟩ := pig m (fun i => if f i = m then f (m + 1) else f i) (fun i hi => by
        have h1 := h i (by omega)
        have h2 := hn i hi
        show (if f i = m then f (m + 1) else f i) < m
        split <;> omega)
      have n1 := hn i (by omega)
      have n2 := hn j hj
      refine ⟨i, j, hij, by omega, ?_⟩
      split at he <;> split at he <;> omega

def markL (n : Nat) : List UInt8 := [112, 97, 114, 116] ++ Lib.itoa n
def standL (n : Nat) : List UInt8 := [45, 45] ++ markL n
def hasN (l : List UInt8) (n : Nat) : Bool := Lib.contains l (standL n)
theorem pre_eq {a b l : List UInt8} (ha : a.isPrefixOf l = true) (hb : b.isPrefixOf l = true) (hl : a.length = b.length) : a = b := by
  rw [List.isPrefixOf_iff_prefix] at ha hb
  obtain ⟨x, hx⟩ := ha
  obtain ⟨y, hy⟩ := hb
  exact (List.append_inj (hx.trans hy.symm) hl).1
/-- 'hasN' of the numbers of seven digits alone -/
theorem seven_mark (l : List UInt8) (B C : Nat) (hB : 10 ^ 6 ≤ B) (hC : C < 10 ^ 7) (hl : l.length + 1 + B ≤ C) : ∃ N, N ≤ C ∧ hasN l N = false := by
  by_cases hc : ∃ N, N ≤ C ∧ hasN l N = false
  · exact hc
  · exfalso
    have hall : ∀ N, N ≤ C → ∃ i : Nat, i ≤ l.length ∧ Lib.occAt l (standL N) i = true := by
      intro N hN
      have ht : hasN l N = true := by
        cases hq : hasN l N
        · exact absurd ⟨N, hN, hq⟩ hc
        · rfl
      unfold hasN Lib.contains at ht
      rcases Lib.index_spec l (standL N) with ⟨h1, _⟩ | ⟨i, _, h2, h3, _⟩
      · rw [h1] at ht; simp at ht
      · exact ⟨i, h2, h3⟩
    obtain ⟨i, j, hij, hj, he⟩ := pig (l.length + 1) (fun k => if h : k + B ≤ C then Classical.choose (hall (k + B) h) else 0) (fun k hk => by
      show (if h : k + B ≤ C then Classical.choose (hall (k + B) h) else 0) < l.length + 1
      rw [dif_pos (by omega)]
      have := (Classical.choose_spec (hall (k + B) (by omega))).1
      omega)
    rw [dif_pos (by omega), dif_pos (by omega)] at he
    have p1 := (Classical.choose_spec (hall (i + B) (by omega))).2
    have p2 := (Classical.choose_spec (hall (j + B) (by omega))).2
    rw [he] at p1
    unfold Lib.occAt at p1 p2
    have d1 := dec_len 6 (i + B) (Nat.le_trans hB (by omega)) (Nat.lt_of_le_of_lt (by omega) hC)
    have d2 := dec_len 6 (j + B) (Nat.le_trans hB (by omega)) (Nat.lt_of_le_of_lt (by omega) hC)
    have e := pre_eq p1 p2 (by unfold standL markL; rw [itoa_nat, itoa_nat]; simp [d1, d2])
    unfold standL markL at e
    rw [itoa_nat, itoa_nat] at e
    have e2 := List.append_cancel_left (List.append_cancel_left e)
    have v1 := (val_dec (i + B)).1
    have v2 := (val_dec (j + B)).1
    rw [e2] at v1
    omega
theorem first_mark (l : List UInt8) (hl : l.length ≤ 1048576) : ∃ M : Nat, M ≤ 3000000 ∧ Hid (hasN l M = false) ∧ Hid (∀ j, j < M → hasN l j = true) := by
  have hex : ∃ N, N ≤ 3000000 ∧ hasN l N = false := by
    obtain ⟨N, hN, hf⟩ := seven_mark l 1000000 3000000 (by decide) (by decide) (by omega)
    exact ⟨N, hN, hf⟩
  obtain ⟨N, hN, hNf⟩ := hex
  have hmin : ∀ n : Nat, hasN l n = false → ∃ M, M ≤ n ∧ hasN l M = false ∧ ∀ j, j < M → hasN l j = true := by
    intro n
    induction n using Nat.strongRecOn with
    | _ n ih =>
      intro hn
      by_cases hc : ∃ j, j < n ∧ hasN l j = false
      · obtain ⟨j, hj, hjf⟩ := hc
        obtain ⟨M, h1, h2, h3⟩ := ih j hj hjf
        exact ⟨M, by omega, h2, h3⟩
      · refine ⟨n, Nat.le_refl _, hn, fun j hj => ?_⟩
        cases hq : hasN l j
        · exact absurd ⟨j, hj, hq⟩ hc
        · rfl
  obtain ⟨M, h1, h2, h3⟩ := hmin N hNf
  exact ⟨M, by omega, h2, h3⟩
end Go.Proofs.YtkenianfpfamcaaGreatDoor
