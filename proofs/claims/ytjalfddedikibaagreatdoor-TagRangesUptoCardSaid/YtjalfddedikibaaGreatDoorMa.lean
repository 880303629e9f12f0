/- Small words that every text of this seat uses: results, strings as lists of bytes. No condition. Contracts of octet: small letters (program and reference), whether two texts are the same whatever their letters' case; classes of bytes. Every text. Contracts of octet: blanks trimmed off a text (program and reference). -/
import Derived.Test.YtjalfddedikibaaGreatDoorProg
import Derived.WalkKit
import Derived.WalkSpells
import Derived.WalkLawsBesides
import Derived.WalkSmall
import Derived.Lib.Hide
import Derived.BigQuiet
import Derived.BigGuardPart
import Derived.Deep.QuietTactic
import Derived.Test.YtjalfddedikibaaGreatDoorShelf
import Derived.Shelf.Strings.SlTrimAscii
namespace Go.Proofs.YtjalfddedikibaaGreatDoor
open Go Go.RowKit

theorem ret_bool {a b : Bool} (h : a = b) : Ending.returned (.bool a) = Ending.returned (.bool b) := by rw [h]
theorem ret_int {k : IntKind} {a b : Int} (h : a = b) : Ending.returned (.int k a) = Ending.returned (.int k b) := by rw [h]
theorem ret_str {a b : ByteArray} (h : a = b) : Ending.returned (.string a) = Ending.returned (.string b) := by rw [h]
theorem ret_val {a b : Value} (h : a = b) : Ending.returned a = Ending.returned b := by rw [h]
theorem val_bool {a b : Bool} (h : a = b) : Value.bool a = Value.bool b := by rw [h]
theorem val_int {k : IntKind} {a b : Int} (h : a = b) : Value.int k a = Value.int k b := by rw [h]
theorem val_str {a b : ByteArray} (h : a = b) : Value.string a = Value.string b := by rw [h]

/-- Hidden equation out of a fresh name for a result. -/
theorem name_it {α : Sort _} (x : α) : ∃ R, Hid (x = R) := ⟨x, rfl⟩

theorem bcell {W w1 : World} (hb : Below W.heap.size W w1) : (∀ b o, b < W.heap.size → w1.cell? ⟨b, o, none⟩ = W.cell? ⟨b, o, none⟩) ∧ (∀ b o, b < W.heap.size → w1.frozen? ⟨b, o, none⟩ = W.frozen? ⟨b, o, none⟩) :=
  ⟨fun b o h => hb.cell (p := ⟨b, o, none⟩) h, fun b o h => hb.frozen (p := ⟨b, o, none⟩) h⟩

theorem below_of_drewN {w : World} (n : Nat) : Below w.heap.size w (w.drewN n) := below_drewN (Below.refl _ _) n

theorem snoc_ind {α : Type} {P : List α → Prop} (h0 : P []) (h1 : ∀ l c, P l → P (l ++ [c])) (l : List α) : P l := by
  rw [← List.reverse_reverse l]
  induction l.reverse with
  | nil => exact h0
  | cons c r ih => rw [List.reverse_cons]; exact h1 _ _ ih

/-! Strings as lists of bytes. Both words are opaque to the walk. -/
def L (s : ByteArray) : List UInt8 := s.data.toList
def bs (l : List UInt8) : ByteArray := ⟨l.toArray⟩
theorem L_bs (l : List UInt8) : L (bs l) = l := rfl
theorem bs_L (s : ByteArray) : bs (L s) = s := rfl
theorem size_bs (l : List UInt8) : (bs l).size = l.length := by simp [bs, ByteArray.size]
theorem L_length (s : ByteArray) : (L s).length = s.size := Array.length_toList
theorem L_getElem {s : ByteArray} {k : Nat} (h : k < s.size) : (L s)[k]'(by rw [L_length]; exact h) = s[k] := rfl
theorem L_drop {s : ByteArray} {k : Nat} (h : k < s.size) : (L s).drop k = s[k] :: (L s).drop (k + 1) := by
  rw [List.drop_eq_getElem_cons (by rw [L_length]; exact h)]; rfl
theorem L_take {s : ByteArray} {k : Nat} (h : k < s.size) : (L s).take (k + 1) = (L s).take k ++ [s[k]] := by
  rw [List.take_succ_eq_append_getElem (by rw [L_length]; exact h)]; rfl
theorem L_drop_all (s : ByteArray) : (L s).drop s.size = [] := List.drop_of_length_le (by rw [L_length]; exact Nat.le_refl _)
theorem L_take_all (s : ByteArray) : (L s).take s.size = L s := List.take_of_length_le (by rw [L_length]; exact Nat.le_refl _)
theorem extract_bs (s : ByteArray) (a b : Nat) : s.extract a b = bs (((L s).take b).drop a) := by
  apply ByteArray.ext
  simp [bs, L, ByteArray.data_extract]
  rw [← Array.toList_inj]
  simp [Array.toList_extract, List.drop_take]
theorem bs_inj {a b : List UInt8} : bs a = bs b ↔ a = b := ⟨fun h => by have := congrArg L h; exact this, fun h => by rw [h]⟩
theorem L_inj {a b : ByteArray} : L a = L b ↔ a = b := ⟨fun h => by have := congrArg bs h; exact this, fun h => by rw [h]⟩

theorem str_eq (a b : ByteArray) : (a.toList == b.toList) = decide (L a = L b) := by
  rw [ByteArray.toList_eq, ByteArray.toList_eq, Bool.eq_iff_iff]; simp [L]
theorem str_empty (a : ByteArray) : a.toList.isEmpty = decide (L a = []) := by
  rw [ByteArray.toList_eq, Bool.eq_iff_iff]; simp [L]
theorem toList_L (a : ByteArray) : a.toList = L a := ByteArray.toList_eq a

/-- for a loop's measure -/
def strLen : Value → Nat | .string b => b.size | _ => 0
theorem bs_zero_size {c : UInt8} {l : List UInt8} : 0 < (bs (c :: l)).size := by rw [size_bs]; simp
theorem bs_get0 {c : UInt8} {l : List UInt8} : (bs (c :: l))[0]'bs_zero_size = c := rfl
theorem bs_ne {c : UInt8} {l : List UInt8} : (bs (c :: l)).toList.isEmpty = false := by rw [toList_L]; rfl
theorem bs_ne' {c : UInt8} {l : List UInt8} : ¬ (bs (c :: l)).toList = [] := by rw [toList_L]; intro h; cases h
theorem bs_snoc_size {c : UInt8} {l : List UInt8} : (bs (l ++ [c])).size = l.length + 1 := by rw [size_bs]; simp
theorem bs_snoc_lt {c : UInt8} {l : List UInt8} : l.length < (bs (l ++ [c])).size := by rw [size_bs]; simp
theorem bs_snoc_get {c : UInt8} {l : List UInt8} : (bs (l ++ [c]))[l.length]'bs_snoc_lt = c := by
  have h : (l ++ [c])[l.length]'(by simp) = c := by simp
  exact h
theorem bs_snoc_ne {c : UInt8} {l : List UInt8} : (bs (l ++ [c])).toList.isEmpty = false := by rw [toList_L, L_bs]; simp
theorem bs_snoc_ne' {c : UInt8} {l : List UInt8} : ¬ (bs (l ++ [c])).toList = [] := by rw [toList_L, L_bs]; simp
theorem list_snoc (l : List UInt8) : l = [] ∨ ∃ m c, l = m ++ [c] := by
  rcases l.eq_nil_or_concat with h | ⟨m, c, h⟩
  · exact Or.inl h
  · exact Or.inr ⟨m, c, by simpa using h⟩
theorem bs_nil : (bs []).toList = [] := by rw [toList_L]; rfl
theorem bs_nil' : (bs []).toList.isEmpty = true := by rw [toList_L]; rfl
theorem extract_tail (s : ByteArray) (a : Nat) : s.extract a s.size = bs ((L s).drop a) := by
  rw [extract_bs, L_take_all]
theorem extract_head (s : ByteArray) (b : Nat) : s.extract 0 b = bs ((L s).take b) := by
  rw [extract_bs]; rfl

/-- A row of bytes at a block's head: its cells, none frozen. -/
structure ByteRow (w : World) (b : Nat) (l : List UInt8) : Prop where
  cell : ∀ j, j < l.length → w.cell? ⟨b, j, none⟩ = some (.int .u8 ((l.getD j 0).toNat : Int))
  free : ∀ j, j < l.length → w.frozen? ⟨b, j, none⟩ = false
  lt : b < w.heap.size

theorem ByteRow.set {w : World} {b : Nat} {l : List UInt8} (h : ByteRow w b l) (k : Nat) (hk : k < l.length) (x : UInt8) : ByteRow (w.setCell ⟨b, k, none⟩ (.int .u8 (x.toNat : Int))) b (l.set k x) where
  cell j hj := by
    rw [List.length_set] at hj
    by_cases e : j = k
    · subst e
      rw [World.cell?_setCell_same _ _ _ (h.cell j hj)]
      simp [List.getD, hj]
    · rw [World.cell?_setCell_other _ _ _ _ (by intro q; exact e (by injection q with _ q _; exact q.symm)), h.cell j hj]
      simp [List.getD, Ne.symm e]
  free j hj := by rw [List.length_set] at hj; simpa using h.free j hj
  lt := by simpa using h.lt
theorem ByteRow.drew {w : World} {b : Nat} {l : List UInt8} (h : ByteRow w b l) : ByteRow w.drew b l := ⟨h.cell, h.free, h.lt⟩

/-- '[]byte(s)'. -/
theorem conv_bytes {P : Program} (w : World) (src dst e : TypeId) (s : ByteArray) (hs : P.underlying src = some .string) (hd : P.underlying dst = some (.slice e)) (he : P.underlying e = some (.int .u8)) :
    ∃ (cap : Nat) (w1 : World), (convert src dst (.string s)).run P w = .ok (.slice (some ⟨w.heap.size, 0, none⟩) s.size cap) w1 ∧ Below w.heap.size w w1 ∧ ByteRow w1 w.heap.size (L s) ∧ s.size ≤ cap := by
  refine ⟨_, _, run_bytes_of_string w src dst e s hs hd he, ((Below.refl _ _).drew).alloc (by simp) _, ⟨?_, ?_, ?_⟩, ?_⟩
  · intro j hj
    rw [L_length] at hj
    have := World.cell?_alloc_mark w.drew (bytesRow s (grownCap w s.size 0 e)) e ((bytesRow s (grownCap w s.size 0 e)).size, (bytesRow s (grownCap w s.size 0 e)).size + 1) j
    refine this.trans ((bytesRow_at s _ j hj).trans ?_)
    have e1 : (L s).getD j 0 = s.data[j] := by
      show ((L s)[j]?).getD 0 = _
      rw [List.getElem?_eq_getElem (by rw [L_length]; exact hj)]; rfl
    rw [e1]
  · intro j hj
    rw [L_length] at hj
    have := World.frozen?_alloc_mark w.drew (bytesRow s (grownCap w s.size 0 e)) e (bytesRow s (grownCap w s.size 0 e)).size ((bytesRow s (grownCap w s.size 0 e)).size + 1) j
    refine this.trans ?_
    have h1 : s.size ≤ (bytesRow s (grownCap w s.size 0 e)).size := by
      unfold bytesRow; rw [Array.size_append, Array.size_map]; exact Nat.le_add_right _ _
    have h2 : ¬ (bytesRow s (grownCap w s.size 0 e)).size ≤ j := by omega
    rw [decide_eq_false h2]; rfl
  · show w.heap.size < (w.heap.push _).size
    rw [Array.size_push]; omega
  · exact grownCap_ge _ _ _ _
theorem conv_back {P : Program} {w : World} (src dst e : TypeId) {b cap n : Nat} {l : List UInt8} (h : ByteRow w b l) (hn : n = l.length) (hs : P.underlying src = some (.slice e)) (he : P.underlying e = some (.int .u8)) (hd : P.underlying dst = some .string) :
    (convert src dst (.slice (some ⟨b, 0, none⟩) n cap)).run P w = .ok (.string (bs l)) w := by
  subst hn
  refine run_convert_bytes_back w src dst e ⟨b, 0, none⟩ cap l hs he hd fun j hj => ?_
  have : (⟨b, 0, none⟩ : Addr).add j = ⟨b, j, none⟩ := by rw [Addr.add_lit, Nat.zero_add]
  rw [this, h.cell j hj]
  simp [List.getD, hj]
end Go.Proofs.YtjalfddedikibaaGreatDoor
namespace Go.Proofs.YtjalfddedikibaaGreatDoor
open Go Go.RowKit
set_option maxHeartbeats 1000000

def lowerB (c : UInt8) : UInt8 := if 65 ≤ c.toNat ∧ c.toNat ≤ 90 then c + 32 else c
def lower (l : List UInt8) : List UInt8 := l.map lowerB
theorem lower_length (l : List UInt8) : (lower l).length = l.length := by simp [lower]
/-- what has been made of a text behind k rounds -/
def lowT (l : List UInt8) (k : Nat) : List UInt8 := (l.take k).map lowerB ++ l.drop k
theorem lowT_length (l : List UInt8) (k : Nat) : (lowT l k).length = l.length := by simp [lowT]; omega
theorem lowT_zero (l : List UInt8) : lowT l 0 = l := by simp [lowT]
theorem lowT_all (l : List UInt8) (k : Nat) (h : l.length ≤ k) : lowT l k = lower l := by
  simp [lowT, lower, List.take_of_length_le h, List.drop_of_length_le h]
theorem lowT_succ (l : List UInt8) (k : Nat) (h : k < l.length) : lowT l (k + 1) = (lowT l k).set k (lowerB l[k]) := by
  unfold lowT
  rw [List.take_succ_eq_append_getElem h, List.drop_eq_getElem_cons h, List.map_append, List.set_append_right _ _ (by simp; omega), show k - (List.map lowerB (List.take k l)).length = 0 by simp; omega, List.set_cons_zero]
  simp
theorem lowT_get (l : List UInt8) (k : Nat) (h : k < l.length) : (lowT l k).getD k 0 = l[k] := by
  unfold lowT
  rw [List.getD, List.getElem?_append_right (by simp; omega)]
  simp [show k - min k l.length = 0 by omega, List.getElem?_eq_getElem h]
theorem lowT_same (l : List UInt8) (k : Nat) (h : k < l.length) (hs : lowerB l[k] = l[k]) : lowT l (k + 1) = lowT l k := by
  rw [lowT_succ l k h, hs]
  apply List.ext_getElem?
  intro i
  rw [List.getElem?_set]
  split
  · rename_i e; subst e
    have := lowT_get l k h
    rw [List.getD] at this
    cases hx : (lowT l k)[k]? with
    | none => rw [List.getElem?_eq_none_iff, lowT_length] at hx; omega
    | some x => rw [hx] at this; simp at this; subst this; simp [lowT_length, h]
  · rfl
theorem u8_up {x : UInt8} (h1 : 65 ≤ x.toNat) (h2 : x.toNat ≤ 90) : (x + 32).toNat = x.toNat + 32 := by
  rw [UInt8.toNat_add]; show (x.toNat + 32) % 256 = _; omega

theorem lower_any (s : ByteArray) (w : World) (hs : s.size ≤ maxLen) :
    Calls Tryz.prog 72 #[.string s] w fun e w' => e = .returned (.string (bs (lower (L s)))) ∧ Below w.heap.size w w' := by
  unfold maxLen at hs
  obtain ⟨cap, w1, hconv, hb1, hrow, hcap⟩ := conv_bytes (P := Tryz.prog) w 9 77 5 s Tryz.underlying9 Tryz.underlying77 Tryz.underlying5
  have hL := L_length s
  go_enter Tryz.func72, Tryz.ntmps72
  go_wp2_with fail
  clear hconv
  go_loopw [4, 5, 10] (fun _ _ i wr => ∃ k : Nat, k ≤ s.size ∧ i = .int .i64 k ∧ Hid (ByteRow wr w.heap.size (lowT (L s) k)) ∧ Below w.heap.size w wr) (fun _ _ i _ => s.size - (intOf i).toNat)
  case atStart => exact ⟨0, Nat.zero_le _, rfl, by rw [lowT_zero]; exact hrow, hb1⟩
  case round =>
    obtain ⟨k, hk, rfl, hr, hbr⟩ := hrel
    clear hrow hb1
    by_cases hlt : k < s.size
    · have hc := hr.out.cell k (by rw [lowT_length]; omega)
      have hf := hr.out.free k (by rw [lowT_length]; omega)
      rw [lowT_get _ _ (by omega)] at hc
      obtain ⟨x, hx⟩ := name_it ((L s)[k]'(by omega))
      rw [hx.out] at hc
      by_cases hup : (65 : Int) ≤ (x.toNat : Int) ∧ (x.toNat : Int) ≤ 90
      · obtain ⟨u1, u2⟩ := hup
        have hl : Hid (ByteRow (wr.setCell ⟨w.heap.size, k, none⟩ (.int .u8 ((x.toNat : Int) + 97 - 65))) w.heap.size (lowT (L s) (k + 1))) := by
          have h1 := hr.out.set k (by rw [lowT_length]; omega) (lowerB x)
          rw [lowT_succ _ _ (by omega), hx.out]
          have : ((lowerB x).toNat : Int) = (x.toNat : Int) + 97 - 65 := by
            unfold lowerB; rw [if_pos (by omega), u8_up (by omega) (by omega)]; omega
          rw [this] at h1
          exact h1
        go_wp2_with fail
        go_roundw
        case rel => exact ⟨k + 1, by omega, by go_num, hl, hbr.setCell (Nat.le_refl _) _⟩
        case measure => simp [intOf]; omega
      · have hl : Hid (ByteRow wr w.heap.size (lowT (L s) (k + 1))) := by
          rw [lowT_same _ _ (by omega) (by rw [hx.out]; unfold lowerB; rw [if_neg (by omega)])]
          exact hr.out
        have hup' : (x.toNat : Int) < 65 ∨ 90 < (x.toNat : Int) := by omega
        clear hup
        rcases hup' with hup | hup
        all_goals
          go_wp2_with fail
          all_goals
            go_roundw
            case rel => exact ⟨k + 1, by omega, by go_num, hl, hbr⟩
            case measure => simp [intOf]; omega
    · obtain rfl : k = s.size := by omega
      have hr2 := hr.out
      rw [lowT_all _ _ (by omega)] at hr2
      have hback := conv_back (P := Tryz.prog) 77 9 5 (cap := cap) (n := s.size) hr2 (by rw [lower_length]; omega) Tryz.underlying77 Tryz.underlying5 Tryz.underlying9
      clear hr2
      go_wp2_with fail
      go_ret
      exact ⟨rfl, hbr⟩
theorem same_any (a b : ByteArray) (w : World) (ha : a.size ≤ maxLen) (hb : b.size ≤ maxLen) :
    Calls Tryz.prog 52 #[.string a, .string b] w fun e w' => e = .returned (.bool (decide (lower (L a) = lower (L b)))) ∧ Below w.heap.size w w' := by
  obtain ⟨R, hR⟩ := name_it (decide (lower (L a) = lower (L b)))
  rw [hR.out]
  go_enter Tryz.func52, Tryz.ntmps52
  go_wp2_with fail
  refine (lower_any a _ ha).mono ?_; rintro e w1 ⟨rfl, hb1⟩
  go_wp2_with fail
  refine (lower_any b _ hb).mono ?_; rintro e w2 ⟨rfl, hb2⟩
  go_wp2_with fail
  go_ret
  refine ⟨ret_bool ?_, hb1.trans (hb2.mono hb1.size)⟩
  rw [← hR.out]
  rw [str_eq, L_bs, L_bs]
end Go.Proofs.YtjalfddedikibaaGreatDoor
namespace Go.Proofs.YtjalfddedikibaaGreatDoor
open Go Go.RowKit
set_option maxHeartbeats 1000000

def isBl (c : UInt8) : Bool := decide (c.toNat = 32 ∨ c.toNat = 9)
def trimL (l : List UInt8) : List UInt8 := l.dropWhile isBl
def trimR (l : List UInt8) : List UInt8 := (l.reverse.dropWhile isBl).reverse
def trim (l : List UInt8) : List UInt8 := trimR (trimL l)
theorem trimR_snoc_bl (l : List UInt8) (c : UInt8) (h : isBl c = true) : trimR (l ++ [c]) = trimR l := by
  simp [trimR, h]
theorem trimR_snoc_no (l : List UInt8) (c : UInt8) (h : isBl c = false) : trimR (l ++ [c]) = l ++ [c] := by
  simp [trimR, h]
theorem trimL_cons_bl (l : List UInt8) (c : UInt8) (h : isBl c = true) : trimL (c :: l) = trimL l := by simp [trimL, h]
theorem trimL_cons_no (l : List UInt8) (c : UInt8) (h : isBl c = false) : trimL (c :: l) = c :: l := by simp [trimL, h]
theorem trimR_cons_no : ∀ (l : List UInt8) (c : UInt8), isBl c = false → trimR (c :: l) = c :: trimR l := by
  intro l c h
  refine snoc_ind (P := fun l => trimR (c :: l) = c :: trimR l) ?_ ?_ l
  · have : ([c] : List UInt8) = [] ++ [c] := rfl
    rw [this, trimR_snoc_no _ _ h]; simp [trimR]
  · intro l d ih
    cases hd : isBl d
    · rw [← List.cons_append, trimR_snoc_no _ _ hd, trimR_snoc_no _ _ hd]; rfl
    · rw [← List.cons_append, trimR_snoc_bl _ _ hd, trimR_snoc_bl _ _ hd, ih]
theorem trim_swap (l : List UInt8) : trimL (trimR l) = trimR (trimL l) := by
  induction l with
  | nil => rfl
  | cons c l ih =>
    cases hc : isBl c
    · rw [trimR_cons_no _ _ hc, trimL_cons_no _ _ hc, trimL_cons_no _ _ hc, trimR_cons_no _ _ hc]
    · rw [trimL_cons_bl _ _ hc, ← ih]
      -- the last of c :: l that is no blank
      by_cases hall : (l.all isBl) = true
      · have e1 : ∀ m : List UInt8, m.all isBl = true → trimR m = [] := by
          intro m hm
          refine (snoc_ind (P := fun m => m.all isBl = true → trimR m = []) ?_ ?_ m) hm
          · intro _; rfl
          · intro m d ih h
            simp only [List.all_append, Bool.and_eq_true, List.all_cons, List.all_nil, Bool.and_true] at h
            rw [trimR_snoc_bl _ _ h.2]; exact ih h.1
        rw [e1 (c :: l) (by simp [hc] at hall ⊢; exact hall), e1 l hall]
      · have e2 : ∀ m : List UInt8, ¬ (m.all isBl) = true → trimR (c :: m) = c :: trimR m := by
          intro m
          refine snoc_ind (P := fun m => ¬ (m.all isBl) = true → trimR (c :: m) = c :: trimR m) ?_ ?_ m
          · intro h; exact absurd rfl h
          · intro m d ih h
            cases hd : isBl d
            · rw [← List.cons_append, trimR_snoc_no _ _ hd, trimR_snoc_no _ _ hd]; rfl
            · rw [← List.cons_append, trimR_snoc_bl _ _ hd, trimR_snoc_bl _ _ hd]
              refine ih (fun h' => h ?_)
              simp only [List.all_append, h', hd, List.all_cons, List.all_nil, Bool.and_true]
        rw [e2 l hall, trimL_cons_bl _ _ hc]
theorem dropWhile_le (p : UInt8 → Bool) (l : List UInt8) : (l.dropWhile p).length ≤ l.length := by
  induction l with
  | nil => simp
  | cons c l ih => rw [List.dropWhile_cons]; split <;> simp <;> omega
theorem trim_le (l : List UInt8) : (trim l).length ≤ l.length := by
  unfold trim trimR trimL
  have h1 := dropWhile_le isBl (l.dropWhile isBl).reverse
  have h2 := dropWhile_le isBl l
  simp at h1 ⊢; omega

theorem strim_any (s : ByteArray) (w : World) (hs : s.size ≤ maxLen) :
    Calls Tryz.prog 53 #[.string s, .string ⟨#[32, 9]⟩] w fun e w' => e = .returned (.string (bs (trim (L s)))) ∧ Below w.heap.size w w' := by
  refine (Any.strings_Trim_laid Tryz.lays160 (by kernel_rfl) s ⟨#[32, 9]⟩ w hs (by decide) (ascii_of_all (by decide))).mono ?_
  rintro e w' ⟨rfl, hb⟩
  refine ⟨ret_str ?_, hb⟩
  show _ = bs _
  unfold trim
  rw [← trim_swap]
  have e : ∀ b : UInt8, ([32, 9] : List UInt8).contains b = isBl b := by
    intro b
    rw [Bool.eq_iff_iff]
    simp [isBl, ← UInt8.toNat_inj]
  unfold Lib.trimS Lib.trimLeftS Lib.trimRightS trimL trimR bs
  simp only [e, L]
theorem trim_any (s : ByteArray) (w : World) (hs : s.size ≤ maxLen) :
    Calls Tryz.prog 27 #[.string s] w fun e w' => e = .returned (.string (bs (trim (L s)))) ∧ Below w.heap.size w w' := by
  go_enter Tryz.func27, Tryz.ntmps27
  go_wp2_with fail
  refine (strim_any s _ hs).mono ?_; rintro e w1 ⟨rfl, hb1⟩
  go_wp2_with fail
  go_ret
  exact ⟨rfl, hb1⟩
end Go.Proofs.YtjalfddedikibaaGreatDoor
