/- Small words that every text of this seat uses: results, strings as lists of bytes. No condition. Contracts of octet: small letters (program and reference), whether two texts are the same whatever their letters' case; classes of bytes. Every text. Contracts of octet: classes of bytes, fields, decimal numbers (program and reference). The lines of a ledger in plain Lean: the reader's steps, as functions on a place and on whether it went wrong. Small laws for slices that a call makes itself: one element appended; a row of bytes read as a string. Contract of the document's Digits: a number's decimal numeral. Plain laws of numbers written in digits, and the first number whose mark a body has not. -/
import Derived.Test.YtkenianfpfamcaaGreatDoorProg
import Derived.WalkKit
import Derived.WalkSpells
import Derived.WalkLawsBesides
import Derived.WalkSmall
import Derived.Lib.Hide
import Derived.BigQuiet
import Derived.BigGuardPart
import Derived.Deep.QuietTactic
import Derived.Test.YtkenianfpfamcaaGreatDoorShelf
import Derived.Lib.ItoaLen
import Derived.Lib.ItoaMem
import Derived.Lib.IndexMore
namespace Go.Proofs.YtkenianfpfamcaaGreatDoor
open Go Go.RowKit

theorem ret_bool {a b : Bool} (h : a = b) : Ending.returned (.bool a) = Ending.returned (.bool b) := by rw [h]
theorem ret_int {k : IntKind} {a b : Int} (h : a = b) : Ending.returned (.int k a) = Ending.returned (.int k b) := by rw [h]
theorem ret_str {a b : ByteArray} (h : a = b) : Ending.returned (.string a) = Ending.returned (.string b) := by rw [h]
theorem ret_val {a b : Value} (h : a = b) : Ending.returned a = Ending.returned b := by rw [h]
theorem val_bool {a b : Bool} (h : a = b) : Value.bool a = Value.bool b := by rw [h]
theorem val_int {k : IntKind} {a b : Int} (h : a = b) : Value.int k a = Value.int k b := by rw [h]
/-- Hidden equation out of a fresh name for a result. -/
theorem name_it {α : Sort _} (x : α) : ∃ R, Hid (x = R) := ⟨x, rfl⟩

theorem below_of_drewN {w : World} (n : Nat) : Below w.heap.size w (w.drewN n) := below_drewN (Below.refl _ _) n

theorem snoc_ind {α : Type} {P : List α → Prop} (h0 : P []) (h1 : ∀ l c, P l → P (l ++ [c])) (l : List α) : P l := by
  rw [← List.reverse_reverse l]
  induction l.reverse with
  | nil => exact h0
  | cons c r ih => rw [List.reverse_cons]; exact h1 _ _ ih

/-! Strings as lists of bytes. Both words are opaque to the walk. -/
def L (s : ByteArray) : List UInt8 := s.data.toList
def bs (l : List UInt8) : ByteArray := ⟨l.toArray⟩
theorem L_bs (l : List UInt8) : L (bs l) = l := rfl
theorem bs_L (s : ByteArray) : bs (L s) = s := rfl
theorem size_bs (l : List UInt8) : (bs l).size = l.length := by simp [bs, ByteArray.size]
theorem L_length (s : ByteArray) : (L s).length = s.size := Array.length_toList
theorem L_getElem {s : ByteArray} {k : Nat} (h : k < s.size) : (L s)[k]'(by rw [L_length]; exact h) = s[k] := rfl
theorem L_drop {s : ByteArray} {k : Nat} (h : k < s.size) : (L s).drop k = s[k] :: (L s).drop (k + 1) := by
  rw [List.drop_eq_getElem_cons (by rw [L_length]; exact h)]; rfl
theorem L_take {s : ByteArray} {k : Nat} (h : k < s.size) : (L s).take (k + 1) = (L s).take k ++ [s[k]] := by
  rw [List.take_succ_eq_append_getElem (by rw [L_length]; exact h)]; rfl
theorem L_drop_all (s : ByteArray) : (L s).drop s.size = [] := List.drop_of_length_le (by rw [L_length]; exact Nat.le_refl _)
theorem L_take_all (s : ByteArray) : (L s).take s.size = L s := List.take_of_length_le (by rw [L_length]; exact Nat.le_refl _)
theorem extract_bs (s : ByteArray) (a b : Nat) : s.extract a b = bs (((L s).take b).drop a) := by
  apply ByteArray.ext
  simp [bs, L, ByteArray.data_extract]
  rw [← Array.toList_inj]
  simp [Array.toList_extract, List.drop_take]
theorem L_inj {a b : ByteArray} : L a = L b ↔ a = b := ⟨fun h => by have := congrArg bs h; exact this, fun h => by rw [h]⟩

theorem str_eq (a b : ByteArray) : (a.toList == b.toList) = decide (L a = L b) := by
  rw [ByteArray.toList_eq, ByteArray.toList_eq, Bool.eq_iff_iff]; simp [L]
theorem str_empty (a : ByteArray) : a.toList.isEmpty = decide (L a = []) := by
  rw [ByteArray.toList_eq, Bool.eq_iff_iff]; simp [L]
theorem toList_L (a : ByteArray) : a.toList = L a := ByteArray.toList_eq a

theorem bs_zero_size {c : UInt8} {l : List UInt8} : 0 < (bs (c :: l)).size := by rw [size_bs]; simp
theorem bs_get0 {c : UInt8} {l : List UInt8} : (bs (c :: l))[0]'bs_zero_size = c := rfl
theorem bs_ne {c : UInt8} {l : List UInt8} : (bs (c :: l)).toList.isEmpty = false := by rw [toList_L]; rfl
theorem list_snoc (l : List UInt8) : l = [] ∨ ∃ m c, l = m ++ [c] := by
  rcases l.eq_nil_or_concat with h | ⟨m, c, h⟩
  · exact Or.inl h
  · exact Or.inr ⟨m, c, by simpa using h⟩
theorem bs_nil' : (bs []).toList.isEmpty = true := by rw [toList_L]; rfl
theorem extract_tail (s : ByteArray) (a : Nat) : s.extract a s.size = bs ((L s).drop a) := by
  rw [extract_bs, L_take_all]
theorem extract_head (s : ByteArray) (b : Nat) : s.extract 0 b = bs ((L s).take b) := by
  rw [extract_bs]; rfl

/-- A row of bytes at a block's head: its cells, none frozen. -/
structure ByteRow (w : World) (b : Nat) (l : List UInt8) : Prop where
  cell : ∀ j, j < l.length → w.cell? ⟨b, j, none⟩ = some (.int .u8 ((l.getD j 0).toNat : Int))
  free : ∀ j, j < l.length → w.frozen? ⟨b, j, none⟩ = false
  lt : b < w.heap.size

theorem ByteRow.set {w : World} {b : Nat} {l : List UInt8} (h : ByteRow w b l) (k : Nat) (hk : k < l.length) (x : UInt8) : ByteRow (w.setCell ⟨b, k, none⟩ (.int .u8 (x.toNat : Int))) b (l.set k x) where
  cell j hj := by
    rw [List.length_set] at hj
    by_cases e : j = k
    · subst e
      rw [World.cell?_setCell_same _ _ _ (h.cell j hj)]
      simp [List.getD, hj]
    · rw [World.cell?_setCell_other _ _ _ _ (by intro q; exact e (by injection q with _ q _; exact q.symm)), h.cell j hj]
      simp [List.getD, Ne.symm e]
  free j hj := by rw [List.length_set] at hj; simpa using h.free j hj
  lt := by simpa using h.lt
theorem ByteRow.drew {w : World} {b : Nat} {l : List UInt8} (h : ByteRow w b l) : ByteRow w.drew b l := ⟨h.cell, h.free, h.lt⟩

/-- '[]byte(s)'. -/
theorem conv_bytes {P : Program} (w : World) (src dst e : TypeId) (s : ByteArray) (hs : P.underlying src = some .string) (hd : P.underlying dst = some (.slice e)) (he : P.underlying e = some (.int .u8)) :
    ∃ (cap : Nat) (w1 : World), (convert src dst (.string s)).run P w = .ok (.slice (some ⟨w.heap.size, 0, none⟩) s.size cap) w1 ∧ Below w.heap.size w w1 ∧ ByteRow w1 w.heap.size (L s) ∧ s.size ≤ cap := by
  refine ⟨_, _, run_bytes_of_string w src dst e s hs hd he, ((Below.refl _ _).drew).alloc (by simp) _, ⟨?_, ?_, ?_⟩, ?_⟩
  · intro j hj
    rw [L_length] at hj
    have := World.cell?_alloc_mark w.drew (bytesRow s (grownCap w s.size 0 e)) e ((bytesRow s (grownCap w s.size 0 e)).size, (bytesRow s (grownCap w s.size 0 e)).size + 1) j
    refine this.trans ((bytesRow_at s _ j hj).trans ?_)
    have e1 : (L s).getD j 0 = s.data[j] := by
      show ((L s)[j]?).getD 0 = _
      rw [List.getElem?_eq_getElem (by rw [L_length]; exact hj)]; rfl
    rw [e1]
  · intro j hj
    rw [L_length] at hj
    have := World.frozen?_alloc_mark w.drew (bytesRow s (grownCap w s.size 0 e)) e (bytesRow s (grownCap w s.size 0 e)).size ((bytesRow s (grownCap w s.size 0 e)).size + 1) j
    refine this.trans ?_
    have h1 : s.size ≤ (bytesRow s (grownCap w s.size 0 e)).size := by
      unfold bytesRow; rw [Array.size_append, Array.size_map]; exact Nat.le_add_right _ _
    have h2 : ¬ (bytesRow s (grownCap w s.size 0 e)).size ≤ j := by omega
    rw [decide_eq_false h2]; rfl
  · show w.heap.size < (w.heap.push _).size
    rw [Array.size_push]; omega
  · exact grownCap_ge _ _ _ _
theorem conv_back {P : Program} {w : World} (src dst e : TypeId) {b cap n : Nat} {l : List UInt8} (h : ByteRow w b l) (hn : n = l.length) (hs : P.underlying src = some (.slice e)) (he : P.underlying e = some (.int .u8)) (hd : P.underlying dst = some .string) :
    (convert src dst (.slice (some ⟨b, 0, none⟩) n cap)).run P w = .ok (.string (bs l)) w := by
  subst hn
  refine run_convert_bytes_back w src dst e ⟨b, 0, none⟩ cap l hs he hd fun j hj => ?_
  have : (⟨b, 0, none⟩ : Addr).add j = ⟨b, j, none⟩ := by rw [Addr.add_lit, Nat.zero_add]
  rw [this, h.cell j hj]
  simp [List.getD, hj]
end Go.Proofs.YtkenianfpfamcaaGreatDoor
namespace Go.Proofs.YtkenianfpfamcaaGreatDoor
open Go Go.RowKit
set_option maxHeartbeats 1000000

def lowerB (c : UInt8) : UInt8 := if 65 ≤ c.toNat ∧ c.toNat ≤ 90 then c + 32 else c
def lower (l : List UInt8) : List UInt8 := l.map lowerB
theorem lower_length (l : List UInt8) : (lower l).length = l.length := by simp [lower]
/-- what has been made of a text behind k rounds -/
def lowT (l : List UInt8) (k : Nat) : List UInt8 := (l.take k).map lowerB ++ l.drop k
theorem lowT_length (l : List UInt8) (k : Nat) : (lowT l k).length = l.length := by simp [lowT]; omega
theorem lowT_zero (l : List UInt8) : lowT l 0 = l := by simp [lowT]
theorem lowT_all (l : List UInt8) (k : Nat) (h : l.length ≤ k) : lowT l k = lower l := by
  simp [lowT, lower, List.take_of_length_le h, List.drop_of_length_le h]
theorem lowT_succ (l : List UInt8) (k : Nat) (h : k < l.length) : lowT l (k + 1) = (lowT l k).set k (lowerB l[k]) := by
  unfold lowT
  rw [List.take_succ_eq_append_getElem h, List.drop_eq_getElem_cons h, List.map_append, List.set_append_right _ _ (by simp; omega), show k - (List.map lowerB (List.take k l)).length = 0 by simp; omega, List.set_cons_zero]
  simp
theorem lowT_get (l : List UInt8) (k : Nat) (h : k < l.length) : (lowT l k).getD k 0 = l[k] := by
  unfold lowT
  rw [List.getD, List.getElem?_append_right (by simp; omega)]
  simp [show k - min k l.length = 0 by omega, List.getElem?_eq_getElem h]
theorem lowT_same (l : List UInt8) (k : Nat) (h : k < l.length) (hs : lowerB l[k] = l[k]) : lowT l (k + 1) = lowT l k := by
  rw [lowT_succ l k h, hs]
  apply List.ext_getElem?
  intro i
  rw [List.getElem?_set]
  split
  · rename_i e; subst e
    have := lowT_get l k h
    rw [List.getD] at this
    cases hx : (lowT l k)[k]? with
    | none => rw [List.getElem?_eq_none_iff, lowT_length] at hx; omega
    | some x => rw [hx] at this; simp at this; subst this; simp [lowT_length, h]
  · rfl
theorem u8_up {x : UInt8} (h1 : 65 ≤ x.toNat) (h2 : x.toNat ≤ 90) : (x + 32).toNat = x.toNat + 32 := by
  rw [UInt8.toNat_add]; show (x.toNat + 32) % 256 = _; omega

theorem lower_any (s : ByteArray) (w : World) (hs : s.size ≤ maxLen) :
    Calls Tryz.prog 55 #[.string s] w fun e w' => e = .returned (.string (bs (lower (L s)))) ∧ Below w.heap.size w w' := by
  unfold maxLen at hs
  obtain ⟨cap, w1, hconv, hb1, hrow, hcap⟩ := conv_bytes (P := Tryz.prog) w 9 131 5 s Tryz.underlying9 Tryz.underlying131 Tryz.underlying5
  have hL := L_length s
  go_enter Tryz.func55, Tryz.ntmps55
  go_wp2_with fail
  clear hconv
  go_loopw [4, 5, 10] (fun _ _ i wr => ∃ k : Nat, k ≤ s.size ∧ i = .int .i64 k ∧ Hid (ByteRow wr w.heap.size (lowT (L s) k)) ∧ Below w.heap.size w wr) (fun _ _ i _ => s.size - (intOf i).toNat)
  case atStart => exact ⟨0, Nat.zero_le _, rfl, by rw [lowT_zero]; exact hrow, hb1⟩
  case round =>
    obtain ⟨k, hk, rfl, hr, hbr⟩ := hrel
    clear hrow hb1
    by_cases hlt : k < s.size
    · have hc := hr.out.cell k (by rw [lowT_length]; omega)
      have hf := hr.out.free k (by rw [lowT_length]; omega)
      rw [lowT_get _ _ (by omega)] at hc
      obtain ⟨x, hx⟩ := name_it ((L s)[k]'(by omega))
      rw [hx.out] at hc
      by_cases hup : (65 : Int) ≤ (x.toNat : Int) ∧ (x.toNat : Int) ≤ 90
      · obtain ⟨u1, u2⟩ := hup
        have hl : Hid (ByteRow (wr.setCell ⟨w.heap.size, k, none⟩ (.int .u8 ((x.toNat : Int) + 97 - 65))) w.heap.size (lowT (L s) (k + 1))) := by
          have h1 := hr.out.set k (by rw [lowT_length]; omega) (lowerB x)
          rw [lowT_succ _ _ (by omega), hx.out]
          have : ((lowerB x).toNat : Int) = (x.toNat : Int) + 97 - 65 := by
            unfold lowerB; rw [if_pos (by omega), u8_up (by omega) (by omega)]; omega
          rw [this] at h1
          exact h1
        go_wp2_with fail
        go_roundw
        case rel => exact ⟨k + 1, by omega, by go_num, hl, hbr.setCell (Nat.le_refl _) _⟩
        case measure => simp [intOf]; omega
      · have hl : Hid (ByteRow wr w.heap.size (lowT (L s) (k + 1))) := by
          rw [lowT_same _ _ (by omega) (by rw [hx.out]; unfold lowerB; rw [if_neg (by omega)])]
          exact hr.out
        have hup' : (x.toNat : Int) < 65 ∨ 90 < (x.toNat : Int) := by omega
        clear hup
        rcases hup' with hup | hup
        all_goals
          go_wp2_with fail
          all_goals
            go_roundw
            case rel => exact ⟨k + 1, by omega, by go_num, hl, hbr⟩
            case measure => simp [intOf]; omega
    · obtain rfl : k = s.size := by omega
      have hr2 := hr.out
      rw [lowT_all _ _ (by omega)] at hr2
      have hback := conv_back (P := Tryz.prog) 131 9 5 (cap := cap) (n := s.size) hr2 (by rw [lower_length]; omega) Tryz.underlying131 Tryz.underlying5 Tryz.underlying9
      clear hr2
      go_wp2_with fail
      go_ret
      exact ⟨rfl, hbr⟩
end Go.Proofs.YtkenianfpfamcaaGreatDoor
namespace Go.Proofs.YtkenianfpfamcaaGreatDoor
open Go Go.RowKit
set_option maxHeartbeats 1000000

def isDig (c : UInt8) : Bool := decide (48 ≤ c.toNat ∧ c.toNat ≤ 57)
theorem isdigit_any (c : UInt8) (w : World) : Calls Tryz.prog 129 #[.int .u8 c.toNat] w fun e w' => e = .returned (.bool (isDig c)) ∧ w = w' := by
  obtain ⟨R, hR⟩ := name_it (isDig c)
  rw [hR.out]
  go_enter Tryz.func129, Tryz.ntmps129
  go_wp2
  all_goals go_ret
  all_goals exact ⟨ret_bool (by rw [← hR.out, Bool.eq_iff_iff]; simp [isDig]; omega), rfl⟩

def dg (c : UInt8) : Int := (c.toNat : Int) - 48
def valOf (l : List UInt8) : Int := l.foldl (fun n c => 10 * n + dg c) 0
theorem valOf_snoc (l : List UInt8) (c : UInt8) : valOf (l ++ [c]) = 10 * valOf l + dg c := by simp [valOf]
theorem dg_bd {c : UInt8} (h : isDig c = true) : 0 ≤ dg c ∧ dg c ≤ 9 := by simp [isDig] at h; unfold dg; omega
theorem valOf_nonneg : ∀ (l : List UInt8), l.all isDig = true → 0 ≤ valOf l := by
  intro l
  refine snoc_ind (P := fun l => l.all isDig = true → 0 ≤ valOf l) ?_ ?_ l
  · intro _; simp [valOf]
  · intro l c ih h
    simp only [List.all_append, Bool.and_eq_true, List.all_cons, List.all_nil, Bool.and_true] at h
    rw [valOf_snoc]
    have := ih h.1
    have := dg_bd h.2
    omega
def decE (l : List UInt8) (most : Int) : Int := if l = [] ∨ l.all isDig = false then 11 else if valOf l ≤ most then 0 else 12
def decN (l : List UInt8) (most : Int) : Int := if decE l most = 0 then valOf l else 0

def hexDigits : ByteArray := ⟨#[48, 49, 50, 51, 52, 53, 54, 55, 56, 57, 97, 98, 99, 100, 101, 102]⟩
def digIdx (x : UInt8) : Int := Lib.indexByte hexDigits.data.toList (lowerB x) -- 212
theorem digIdx_all : ∀ p : Fin 256, (isDig (UInt8.ofNat p.val) = true → digIdx (UInt8.ofNat p.val) = dg (UInt8.ofNat p.val)) ∧ (isDig (UInt8.ofNat p.val) = false → digIdx (UInt8.ofNat p.val) < 0 ∨ 10 ≤ digIdx (UInt8.ofNat p.val)) ∧ -1 ≤ digIdx (UInt8.ofNat p.val) ∧ digIdx (UInt8.ofNat p.val) ≤ 15 := by decide +kernel -- 212
theorem digIdx_of (x : UInt8) : (isDig x = true → digIdx x = dg x) ∧ (isDig x = false → digIdx x < 0 ∨ 10 ≤ digIdx x) ∧ -1 ≤ digIdx x ∧ digIdx x ≤ 15 := by -- 212
  have h := digIdx_all ⟨x.toNat, UInt8.toNat_lt x⟩
  simpa using h
theorem index_hex (x : UInt8) (w : World) : Calls Tryz.prog 212 #[.string hexDigits, .int .u8 ((lowerB x).toNat : Int)] w fun e w' => e = .returned (.int .i64 (digIdx x)) ∧ w = w' := by
  refine (Tryz.strings_IndexByte hexDigits ((lowerB x).toNat : Int) w).mono ?_
  rintro e w' ⟨rfl, rfl⟩
  refine ⟨ret_int ?_, rfl⟩
  unfold digIdx
  simp

theorem lower_one (x : UInt8) (w : World) : Calls Tryz.prog 55 #[.string (bs [x])] w fun e w' => e = .returned (.string (bs [lowerB x])) ∧ Below w.heap.size w w' :=
  lower_any (bs [x]) w (by rw [size_bs]; unfold maxLen; simp)
theorem one_size (x : UInt8) : 0 < (bs [x]).size := by rw [size_bs]; simp
theorem one_get (x : UInt8) (h : 0 < (bs [x]).size) : (bs [x])[0] = x := rfl
theorem number_any (s : ByteArray) (most : Int) (w : World) (hs : s.size ≤ maxLen) (m0 : 0 ≤ most) (m1 : most ≤ 4611686018427387904) :
    Calls Tryz.prog 193 #[.string s, .int .i64 most, .int .i64 10] w fun e w' => e = .returned (.tuple #[.int .i64 (decN (L s) most), .int .i64 (decE (L s) most)]) ∧ Below w.heap.size w w' := by
  unfold maxLen at hs
  obtain ⟨N, hN⟩ := name_it (decN (L s) most)
  obtain ⟨E, hE⟩ := name_it (decE (L s) most)
  rw [hN.out, hE.out]
  have hL := L_length s
  by_cases he : s.size = 0
  · have hl : L s = [] := List.eq_nil_of_length_eq_zero (by omega)
    have h1 : s.toList = [] := by rw [toList_L]; exact hl
    have ho : Hid (N = 0 ∧ E = 11) := by
      rw [← hN.out, ← hE.out]; simp [decN, decE, hl, Hid]
    clear hN hE hl
    go_enter Tryz.func193, Tryz.ntmps193
    go_wp2_with fail
    go_ret2
    exact ⟨by rw [ho.out.1, ho.out.2]; rfl, Below.refl _ _⟩
  · have h1 : s.toList.isEmpty = false := by
      rw [str_empty]; exact decide_eq_false (fun h => he (by rw [← hL, h]; rfl))
    have h2 : s.toList ≠ [] := by rw [toList_L]; intro h; exact he (by rw [← hL, h]; rfl)
    have hm : decide (most < 0) = false := decide_eq_false (by omega)
    go_enter Tryz.func193, Tryz.ntmps193
    go_wp2_with fail
    clear h1 h2 hm
    have HN := Lib.hid hN; have HE := Lib.hid hE
    clear hN hE
    go_loopw [8, 9, 10, 11, 18] (fun n b _ _ i wr => ∃ k : Nat, k ≤ s.size ∧ i = .int .i64 k ∧ Hid (((L s).take k).all isDig = true) ∧
        (∃ (v : Int) (big : Bool), n = .int .i64 v ∧ b = .bool big ∧ 0 ≤ v ∧ v ≤ most ∧ Hid (if big = true then most < valOf ((L s).take k) else v = valOf ((L s).take k))) ∧ Below w.heap.size w wr) (fun _ _ _ _ i _ => s.size - (intOf i).toNat)
    case atStart => exact ⟨0, Nat.zero_le _, rfl, Lib.hid rfl, ⟨0, false, rfl, rfl, Int.le_refl _, m0, Lib.hid rfl⟩, Below.refl _ _⟩
    case round =>
      obtain ⟨k, hk, rfl, had, ⟨v, big, rfl, rfl, v0, v1, hv⟩, hbr⟩ := hrel
      by_cases hlt : k < s.size
      · have hx : Hid (s.extract k (k + 1) = bs [s[k]]) := by
          unfold Hid; rw [extract_bs, L_take hlt, List.drop_append_of_le_length (by rw [List.length_take]; omega), List.drop_of_length_le (by rw [List.length_take]; omega)]; rfl
        obtain ⟨x, hx1⟩ := name_it s[k]
        have hx2 : Hid (s.extract k (k + 1) = bs [x]) := by rw [← hx1.out]; exact hx
        have htk : Hid ((L s).take (k + 1) = (L s).take k ++ [x]) := by rw [← hx1.out]; exact L_take hlt
        clear hx hx1
        have hd := digIdx_of x
        obtain ⟨d, hdd⟩ := name_it (digIdx x)
        rw [hdd.out] at hd
        have hd1 := hd.2.2.1
        have hd2 := hd.2.2.2
        have HD := Lib.hid hd; clear hd
        go_wp2_with fail
        rw [hx2.out]
        refine (lower_one x _).mono ?_; rintro e w1 ⟨rfl, hb1⟩
        have hsz := one_size (lowerB x)
        have hget := one_get (lowerB x) hsz
        go_wp2_with fail
        refine (index_hex x _).mono ?_; rintro e w2 ⟨rfl, rfl⟩
        rw [hdd.out]
        have hb2 := hbr.trans (hb1.mono hbr.size)
        clear hget hsz hb1 hbr
        cases hdig : isDig x
        · have hD := HD.out.2.1 hdig
          have hfin : Hid (N = 0 ∧ E = 11) := by
            have hall : (L s).all isDig = false := by
              rw [Bool.eq_false_iff]; intro h
              rw [List.all_eq_true] at h
              have : x ∈ L s := List.mem_of_mem_take (i := k + 1) (by rw [htk.out]; simp)
              rw [h x this] at hdig; cases hdig
            rw [← HN.out.out, ← HE.out.out]; simp [decN, decE, hall, Hid]
          clear hdig HD HN HE hv htk had
          rcases hD with hD | hD
          all_goals
            go_wp2_with fail
            go_ret2
            exact ⟨by rw [hfin.out.1, hfin.out.2]; rfl, hb2⟩
        · have hD := HD.out.1 hdig
          have hdb := dg_bd hdig
          rw [← hD] at hdb
          have had' : Hid (((L s).take (k + 1)).all isDig = true) := by
            unfold Hid; rw [htk.out, List.all_append, had.out]; simp [hdig]
          have hval : Hid (valOf ((L s).take (k + 1)) = 10 * valOf ((L s).take k) + d) := by
            unfold Hid; rw [htk.out, valOf_snoc, hD]
          have hvn : Hid (0 ≤ valOf ((L s).take k)) := valOf_nonneg _ had.out
          clear hD hdig HD htk had
          cases big
          · have hv' : v = valOf ((L s).take k) := by simpa using hv.out
            have Hv := Lib.hid hv'; clear hv hv'
            by_cases hfit : 10 * v + d ≤ most
            · go_wp2_with fail
              go_roundw
              case rel => exact ⟨k + 1, by omega, by go_num, had', ⟨v * 10 + d, false, rfl, rfl, by omega, by omega, by unfold Hid; rw [hval.out, ← Hv.out]; simp; omega⟩, hb2⟩
              case measure => simp [intOf]; omega
            · have hfit' : most < 10 * v + d := by omega
              clear hfit
              by_cases hq : most / 10 < v
              all_goals
                go_wp2_with fail
                all_goals (try (exfalso; omega))
                go_roundw
                case rel => exact ⟨k + 1, by omega, by go_num, had', ⟨v, true, rfl, rfl, by omega, by omega, by unfold Hid; rw [hval.out, ← Hv.out]; simp; omega⟩, hb2⟩
                case measure => simp [intOf]; omega
          · have hv' : most < valOf ((L s).take k) := by simpa using hv.out
            have Hv := Lib.hid hv'; clear hv hv'
            go_wp2_with fail
            all_goals (try (exfalso; omega))
            go_roundw
            case rel => exact ⟨k + 1, by omega, by go_num, had', ⟨v, true, rfl, rfl, by omega, by omega, by have h1 := hval.out; have h2 := Hv.out; have h3 := hvn.out; unfold Hid; simp; omega⟩, hb2⟩
            case measure => simp [intOf]; omega
      · obtain rfl : k = s.size := by omega
        rw [L_take_all] at had hv
        have hfin : Hid (if big = true then N = 0 ∧ E = 12 else N = v ∧ E = 0) := by
          have hne : L s ≠ [] := fun h => he (by rw [← hL, h]; rfl)
          rw [← HN.out.out, ← HE.out.out]
          have h1 := hv.out
          unfold Hid
          cases big <;> simp at h1 ⊢
          · have : decE (L s) most = 0 := by simp [decE, hne, had.out]; omega
            exact ⟨by simp [decN, this, h1], this⟩
          · have : decE (L s) most = 12 := by simp [decE, hne, had.out]; omega
            exact ⟨by simp [decN, this], this⟩
        clear HN HE hv had
        cases big
        all_goals
          go_wp2_with fail
          go_ret2
          have h1 := hfin.out
          simp at h1
          exact ⟨by rw [h1.1, h1.2]; rfl, hbr⟩
theorem decimal_any (s : ByteArray) (most : Int) (w : World) (hs : s.size ≤ maxLen) (m0 : 0 ≤ most) (m1 : most ≤ 4611686018427387904) :
    Calls Tryz.prog 147 #[.string s, .int .i64 most] w fun e w' => e = .returned (.tuple #[.int .i64 (decN (L s) most), .int .i64 (decE (L s) most)]) ∧ Below w.heap.size w w' := by
  go_enter Tryz.func147, Tryz.ntmps147
  go_wp2_with fail
  refine (number_any s most _ hs m0 m1).mono ?_; rintro e w1 ⟨rfl, hb1⟩
  go_wp2_with fail
  go_ret2
  exact ⟨rfl, hb1⟩
end Go.Proofs.YtkenianfpfamcaaGreatDoor
namespace Go.Proofs.YtkenianfpfamcaaGreatDoor
open Go Go.RowKit

/-- a place in a text, and whether reading went wrong there -/
abbrev St := Nat × Bool
def litS (S : List UInt8) : List UInt8 → St → St
  | [], st => st
  | c :: t, st => if st.2 = true then st else if S[st.1]? = some c then litS S t (st.1 + 1, false) else (st.1, true)
/-- how many bytes of a kind stand at the front, at most so many -/
def runK (may : UInt8 → Bool) : Nat → List UInt8 → Nat
  | 0, _ => 0
  | _ + 1, [] => 0
  | m + 1, c :: r => if may c = true then runK may m r + 1 else 0
def runS (S : List UInt8) (may : UInt8 → Bool) (m : Nat) (st : St) : St :=
  if st.2 = true then st else (st.1 + runK may m (S.drop st.1), decide (runK may m (S.drop st.1) = 0))
def mostI : Int := 9223372036854775807
/-- the digits at the front: what they say, how many were read, whether it went wrong -/
def numK : List UInt8 → Int → Nat → Int × Nat × Bool
  | [], v, k => (v, k, decide (k = 0))
  | c :: r, v, k =>
    if isDig c = true then
      if (0 < k ∧ v = 0) ∨ (mostI - dg c) / 10 < v then (0, k, true) else numK r (10 * v + dg c) (k + 1)
    else (v, k, decide (k = 0))
def numS (S : List UInt8) (st : St) : Int × St :=
  if st.2 = true then (0, st) else ((numK (S.drop st.1) 0 0).1, (st.1 + (numK (S.drop st.1) 0 0).2.1, (numK (S.drop st.1) 0 0).2.2))
end Go.Proofs.YtkenianfpfamcaaGreatDoor
namespace Go.Proofs.YtkenianfpfamcaaGreatDoor
open Go Go.RowKit

theorem own_below {w w' : World} {base : Nat} {v : Value} {e : TypeId} {size n : Nat} {xs : List Value} (hown : w.ownsRow base e size v n xs) (hg : w.grownBy w' v.ownBlock) (hbase : base ≤ w.heap.size) : Below base w w' :=
  (Below.refl base w).grown hg hbase (fun k hk => (hown.lt k hk).1)

/-- 'append(v, x)', x of one cell, v of the call's own; the translation lays x in a block of its own ahead. -/
theorem append1 {P : Program} {w : World} {ops : Array Oper} {rest : List Oper} {o : Oper} {a : Act} {Q : Exit → Act → World → Prop} (hgd : o.guard = none) (s x : Operand) (t : TypeId)
    (ho : o.op = .call { callee := .builtin .append, args := #[s, x], argTypes := #[t, t] })
    (base : Nat) (e : TypeId) (i : TypeInfo) (z : Value) (bytes : Nat) (ht : P.underlying t = some (.slice e)) (hi : P.info? e = some i) (hz : i.zero = some z)
    (hsize : i.size = 1) (hby : i.bytes = bytes) (hzs : z.cells.size = 1)
    {v : Value} {n : Nat} {xs : List Value} (hown : w.ownsRow base e 1 v n xs) (hs : a.eval s = v)
    (u : Value) (hu : u.oneCell' = true) (hx : a.eval x = .slice (some ⟨w.heap.size, 0, none⟩) 1 1)
    (hn : n + 1 ≤ maxLen) (hbytes : (n + 1) * bytes ≤ 140737488355328) (hbase : base ≤ w.heap.size)
    (h : ∀ g cap w', base ≤ g → w'.ownsRow base e 1 (.slice (some ⟨g, 0, none⟩) (n + 1) cap) (n + 1) (xs ++ [u]) → Below base w w' → wpList P ops Q rest (a.put o.dst (.slice (some ⟨g, 0, none⟩) (n + 1) cap)) w') :
    wpList P ops Q (o :: rest) a (w.alloc (.cells #[u] e)) := by
  have hw : base ≤ (w.alloc (.cells #[u] e)).heap.size := by
    show base ≤ (w.heap.push _).size
    rw [Array.size_push]; omega
  refine wpList_append_own (w.alloc (.cells #[u] e)) hgd s x t ho base e i z 1 bytes ht hi hz hsize hby hzs (by decide) v n xs hs (hown.alloc _) ⟨w.heap.size, 0, none⟩ 1 1 [u] hx rfl ?_ ?_ hn hbytes hw ?_
  · intro j y hj
    match j, hj with
    | 0, hj =>
      simp at hj; subst hj
      rw [Addr.add_lit]
      exact World.cell?_alloc_mark w #[u] e (0, 0) 0
  · intro y hy; simp at hy; subst hy; exact hu
  · intro v' w' hown' hgrow _
    rcases hown'.2 with ⟨_, h0⟩ | ⟨g, cap, cur, rfl, hg, _⟩
    · omega
    · exact h g cap w' hg hown' (((Below.refl _ _).alloc hbase _).trans (own_below (hown.alloc _) hgrow hw))

end Go.Proofs.YtkenianfpfamcaaGreatDoor
namespace Go.Proofs.YtkenianfpfamcaaGreatDoor
open Go Go.RowKit
set_option maxHeartbeats 2000000

end Go.Proofs.YtkenianfpfamcaaGreatDoor
namespace Go.Proofs.YtkenianfpfamcaaGreatDoor
open Go Go.RowKit

end Go.Proofs.YtkenianfpfamcaaGreatDoor
