/- The world's variables that the library reads; texts cut at a byte; numbers of ranges. -/
import Derived.Test.YtnodboggemggmaaGreatDoorOctetI
namespace Go.Proofs.YtnodboggemggmaaGreatDoor
open Go Go.RowKit
set_option maxHeartbeats 1000000

/-- What the library's variables hold: that of package bytealg some number, strconv's table its powers of ten. -/
structure Env (w : World) : Prop where
  n : 6 ≤ w.heap.size
  max : ∃ m, w.cell? ⟨0, 0, none⟩ = some (.int .i64 m)
theorem Env.below {B : Nat} {w w' : World} (h : Env w) (hb : Below B w w') (hB : 6 ≤ B) : Env w' := by
  refine ⟨Nat.le_trans h.n hb.size, ?_⟩
  obtain ⟨m, hm⟩ := h.max
  exact ⟨m, by rw [hb.cell (p := ⟨0, 0, none⟩) (by show 0 < B; omega)]; exact hm⟩
theorem Env.next {w w' : World} (h : Env w) (hb : Below w.heap.size w w') : Env w' := h.below hb h.n
theorem Env.alloc {w : World} (h : Env w) (o : Obj) : Env (w.alloc o) := h.next ((Below.refl _ _).alloc (Nat.le_refl _) _)

/-- a block of the call's own behind a call -/
theorem box_facts {w w2 : World} {cs : Array Value} {T : TypeId} (h : Below (w.alloc (.cells cs T)).heap.size (w.alloc (.cells cs T)) w2) :
    (∀ j, w2.cell? ⟨w.heap.size, j, none⟩ = cs[j]?) ∧ (∀ j, w2.frozen? ⟨w.heap.size, j, none⟩ = false) ∧ w.heap.size < w2.heap.size ∧ Below w.heap.size w w2 := by
  have hs : (w.alloc (.cells cs T)).heap.size = w.heap.size + 1 := Array.size_push _
  refine ⟨fun j => ?_, fun j => ?_, ?_, ?_⟩
  · rw [h.cell (p := ⟨w.heap.size, j, none⟩) (by rw [hs]; exact Nat.lt_succ_self _)]
    exact World.cell?_alloc_mark w cs T (0, 0) j
  · rw [h.frozen (p := ⟨w.heap.size, j, none⟩) (by rw [hs]; exact Nat.lt_succ_self _)]
    rw [World.frozen?_alloc_mark w cs T 0 0 j]
    simp
  · have := h.size; rw [hs] at this; omega
  · exact ((Below.refl _ _).alloc (Nat.le_refl _) _).trans (h.mono (by rw [hs]; omega))

def idx (c : UInt8) (l : List UInt8) : Option Nat := l.findIdx? (· == c)
theorem idx_nil (c : UInt8) : idx c [] = none := rfl
theorem idx_cons (c b : UInt8) (l : List UInt8) : idx c (b :: l) = if b == c then some 0 else (idx c l).map (· + 1) := by
  unfold idx; rw [List.findIdx?_cons]
theorem idx_lt {c : UInt8} {l : List UInt8} {i : Nat} (h : idx c l = some i) : i < l.length := by
  unfold idx at h
  exact (List.findIdx?_eq_some_iff_getElem.1 h).1
theorem index_one (c : UInt8) (l : List UInt8) : Lib.index l [c] = match idx c l with | some i => (i : Int) | none => -1 := by
  induction l with
  | nil => rfl
  | cons b l ih =>
    rw [idx_cons]
    unfold Lib.index
    by_cases h : b = c
    · subst h; simp
    · have h1 : (b == c) = false := by simpa using h
      have h2 : ([c] : List UInt8).isPrefixOf (b :: l) = false := by simp [List.isPrefixOf]; exact fun e => h e.symm
      rw [h1, h2, ih]
      cases hi : idx c l with
      | none => simp
      | some i =>
        have : ¬ ((i : Int) = -1) := by omega
        simp [this]
def cutA (c : UInt8) (l : List UInt8) : List UInt8 := match idx c l with | some i => l.take i | none => l
def cutZ (c : UInt8) (l : List UInt8) : List UInt8 := match idx c l with | some i => l.drop (i + 1) | none => []
theorem cutA_le (c : UInt8) (l : List UInt8) : (cutA c l).length ≤ l.length := by unfold cutA; split <;> simp; omega
theorem cutZ_le (c : UInt8) (l : List UInt8) : (cutZ c l).length ≤ l.length := by unfold cutZ; split <;> simp
theorem lib_cut (c : UInt8) (l : List UInt8) : Lib.cut l [c] = (cutA c l, cutZ c l, (idx c l).isSome) := by
  unfold Lib.cut cutA cutZ
  rw [index_one]
  cases hi : idx c l with
  | none => simp
  | some i => simp
theorem cut_any (c : UInt8) (s : ByteArray) (w : World) (hE : Env w) (hs : s.size ≤ 4000000000) :
    Calls Tryz.prog 12 #[.string s, .string ⟨#[c]⟩] w fun e w' => e = .returned (.tuple #[.string (bs (cutA c (L s))), .string (bs (cutZ c (L s))), .bool (idx c (L s)).isSome]) ∧ Below w.heap.size w w' := by
  obtain ⟨m, hm⟩ := hE.max
  refine (Tryz.strings_Cut s ⟨#[c]⟩ m w (by omega) hm).mono ?_
  rintro e w' ⟨rfl, n, rfl⟩
  refine ⟨ret_val ?_, below_of_drewN n⟩
  have : Lib.cut s.data.toList (⟨#[c]⟩ : ByteArray).data.toList = (cutA c (L s), cutZ c (L s), (idx c (L s)).isSome) := lib_cut c (L s)
  rw [this]; rfl

def numN (l : List UInt8) : Int := if decE l 4611686018427387904 = 12 then 4611686018427387904 else decN l 4611686018427387904
def numB (l : List UInt8) : Bool := decide (decE l 4611686018427387904 = 12 ∨ decE l 4611686018427387904 = 0)
theorem decE_cases (l : List UInt8) (m : Int) : decE l m = 11 ∨ decE l m = 12 ∨ decE l m = 0 := by
  unfold decE; split <;> (try split) <;> simp
theorem numN_bd (l : List UInt8) : 0 ≤ numN l ∧ numN l ≤ 4611686018427387904 := by
  unfold numN
  split
  · omega
  · unfold decN
    split
    · rename_i h
      have h1 : l.all isDig = true ∧ valOf l ≤ 4611686018427387904 := by
        unfold decE at h
        split at h
        · omega
        · rename_i h0
          split at h
          · rename_i hv
            refine ⟨?_, hv⟩
            cases hx : l.all isDig
            · exact absurd (Or.inr hx) h0
            · rfl
          · omega
      exact ⟨valOf_nonneg l h1.1, h1.2⟩
    · omega
theorem numB_nil : numB [] = false := by simp [numB, decE]
theorem snum_any (s : ByteArray) (w : World) (hs : s.size ≤ maxLen) :
    Calls Tryz.prog 36 #[.string s] w fun e w' => e = .returned (.tuple #[.int .i64 (numN (L s)), .bool (numB (L s))]) ∧ Below w.heap.size w w' := by
  obtain ⟨V, hV⟩ := name_it (Value.tuple #[.int .i64 (numN (L s)), .bool (numB (L s))])
  rw [hV.out]
  obtain ⟨N, hN⟩ := name_it (decN (L s) 4611686018427387904)
  obtain ⟨E, hE⟩ := name_it (decE (L s) 4611686018427387904)
  have hc := decE_cases (L s) 4611686018427387904
  rw [hE.out] at hc
  rcases hc with hc | hc | hc
  all_goals
    have hv : Hid (V = if E = 12 then Value.tuple #[.int .i64 4611686018427387904, .bool true] else Value.tuple #[.int .i64 N, .bool (decide (E = 0))]) := by
      unfold Hid; rw [← hV.out]; unfold numN numB; rw [hE.out, hN.out]; subst hc; rfl
    have h12 : Hid ((E == 12) = decide (E = 12)) := by unfold Hid; rfl
    go_enter Tryz.func36, Tryz.ntmps36
    go_wp2_with fail
    refine (decimal_any s 4611686018427387904 _ hs (by omega) (by omega)).mono ?_; rintro e w1 ⟨rfl, hb1⟩
    rw [hN.out, hE.out]
    subst hc
    go_wp2_with fail
    go_ret2
    exact ⟨by rw [hv.out]; rfl, hb1⟩
theorem rsnum_any (s : ByteArray) (w : World) (hs : s.size ≤ maxLen) :
    Calls Tryz.prog 40 #[.string s] w fun e w' => e = .returned (.tuple #[.int .i64 (numN (L s)), .bool (numB (L s))]) ∧ w = w' := by
  obtain ⟨V, hV⟩ := name_it (Value.tuple #[.int .i64 (numN (L s)), .bool (numB (L s))])
  rw [hV.out]
  obtain ⟨N, hN⟩ := name_it (decN (L s) 4611686018427387904)
  obtain ⟨E, hE⟩ := name_it (decE (L s) 4611686018427387904)
  have hc := decE_cases (L s) 4611686018427387904
  rw [hE.out] at hc
  rcases hc with hc | hc | hc
  all_goals
    have hv : Hid (V = if E = 12 then Value.tuple #[.int .i64 4611686018427387904, .bool true] else Value.tuple #[.int .i64 N, .bool (decide (E = 0))]) := by
      unfold Hid; rw [← hV.out]; unfold numN numB; rw [hE.out, hN.out]; subst hc; rfl
    go_enter Tryz.func40, Tryz.ntmps40
    go_wp2_with fail
    refine (rdecimal_any s 4611686018427387904 _ hs (by omega) (by omega)).mono ?_; rintro e w1 ⟨rfl, rfl⟩
    rw [hN.out, hE.out]
    subst hc
    go_wp2_with fail
    go_ret2
    exact ⟨by rw [hv.out]; rfl, rfl⟩
end Go.Proofs.YtnodboggemggmaaGreatDoor
