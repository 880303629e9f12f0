/- A target's path. -/
import Derived.Test.YtfgaiopkclogmaaGreatDoorLedgYJ
namespace Go.Proofs.YtfgaiopkclogmaaGreatDoor
open Go Go.RowKit
set_option maxHeartbeats 1000000

def idx (c : UInt8) (l : List UInt8) : Option Nat := l.findIdx? (· == c)
theorem idx_nil (c : UInt8) : idx c [] = none := rfl
theorem idx_cons (c b : UInt8) (l : List UInt8) : idx c (b :: l) = if b == c then some 0 else (idx c l).map (· + 1) := by
  unfold idx; rw [List.findIdx?_cons]
theorem idx_lt {c : UInt8} {l : List UInt8} {i : Nat} (h : idx c l = some i) : i < l.length := by
  unfold idx at h
  exact (List.findIdx?_eq_some_iff_getElem.1 h).1
theorem index_one (c : UInt8) (l : List UInt8) : Lib.index l [c] = match idx c l with | some i => (i : Int) | none => -1 := by
  induction l with
  | nil => rfl
  | cons b l ih =>
    rw [idx_cons]
    unfold Lib.index
    by_cases h : b = c
    · subst h; simp
    · have h1 : (b == c) = false := by simpa using h
      have h2 : ([c] : List UInt8).isPrefixOf (b :: l) = false := by simp [List.isPrefixOf]; exact fun e => h e.symm
      rw [h1, h2, ih]
      cases hi : idx c l with
      | none => simp
      | some i =>
        have : ¬ ((i : Int) = -1) := by omega
        simp [this]
def cutA (c : UInt8) (l : List UInt8) : List UInt8 := match idx c l with | some i => l.take i | none => l
def cutZ (c : UInt8) (l : List UInt8) : List UInt8 := match idx c l with | some i => l.drop (i + 1) | none => []
theorem cutA_le (c : UInt8) (l : List UInt8) : (cutA c l).length ≤ l.length := by unfold cutA; split <;> simp; omega
theorem lib_cut (c : UInt8) (l : List UInt8) : Lib.cut l [c] = (cutA c l, cutZ c l, (idx c l).isSome) := by
  unfold Lib.cut cutA cutZ
  rw [index_one]
  cases hi : idx c l with
  | none => simp
  | some i => simp
theorem cutA_nil (c : UInt8) : cutA c [] = [] := rfl
theorem cutA_cons (c b : UInt8) (l : List UInt8) : cutA c (b :: l) = if b = c then [] else b :: cutA c l := by
  unfold cutA
  rw [idx_cons]
  by_cases h : b = c
  · rw [if_pos h, h]; simp
  · rw [if_neg h, show (b == c) = false by simpa using h]
    cases hi : idx c l with
    | none => simp
    | some i => simp
/-- what the variables hold, the library's search with them -/
structure EnvZ (w : World) : Prop where
  l : EnvL w
  max : ∃ m, w.cell? ⟨0, 0, none⟩ = some (.int .i64 m)
theorem EnvZ.next {w w' : World} (h : EnvZ w) (hb : Below w.heap.size w w') : EnvZ w' := by
  refine ⟨h.l.next hb, ?_⟩
  obtain ⟨m, hm⟩ := h.max
  exact ⟨m, by rw [hb.cell (p := ⟨0, 0, none⟩) (Nat.lt_of_lt_of_le (by show 0 < 5; decide) h.l.env.n)]; exact hm⟩
theorem EnvZ.alloc {w : World} (h : EnvZ w) (o : Obj) : EnvZ (w.alloc o) := h.next ((Below.refl _ _).alloc (Nat.le_refl _) _)
def pathL (l : List UInt8) : List UInt8 := cutA 63 l
theorem path_any (s : ByteArray) (w : World) (hE : EnvZ w) (hs : s.size ≤ 1073741824) :
    Calls Tryz.prog 44 #[.string s] w fun e w' => e = .returned (.string (bs (pathL (L s)))) ∧ Below w.heap.size w w' := by
  obtain ⟨m, hm⟩ := hE.max
  have HC := Lib.hid (Tryz.strings_Cut s ⟨#[63]⟩ m w (by omega) hm)
  have he : Hid (Lib.cut s.data.toList (⟨#[63]⟩ : ByteArray).data.toList = (cutA 63 (L s), cutZ 63 (L s), (idx 63 (L s)).isSome)) := lib_cut 63 (L s)
  obtain ⟨P, hP⟩ := name_it (pathL (L s))
  rw [hP.out]
  have h1 : Hid ((⟨(Lib.cut s.data.toList (⟨#[63]⟩ : ByteArray).data.toList).1.toArray⟩ : ByteArray) = bs P) := by unfold Hid; rw [he.out, ← hP.out]; rfl
  clear hm hE
  go_enter Tryz.func44, Tryz.ntmps44
  go_wp2_with fail
  refine HC.out.mono ?_; rintro e w' ⟨rfl, n, rfl⟩
  rw [h1.out]
  have hb : Below w.heap.size w (w.drewN n) := below_of_drewN n
  obtain ⟨w2, hw2⟩ := name_it (w.drewN n)
  rw [hw2.out] at hb
  rw [hw2.out]
  go_wp2_with fail
  go_ret
  exact ⟨rfl, hb⟩
set_option maxRecDepth 100000 in
theorem rpath_any (s : ByteArray) (w : World) (hs : s.size ≤ 1073741824) :
    Calls Tryz.prog 50 #[.string s] w fun e w' => e = .returned (.string (bs (pathL (L s)))) ∧ w = w' := by
  obtain ⟨P, hP⟩ := name_it (pathL (L s))
  rw [hP.out]
  have h0 : Hid ((L s).take 0 ++ cutA 63 ((L s).drop 0) = P) := hP.out
  clear hP
  go_enter Tryz.func50, Tryz.ntmps50
  go_wp2_with fail
  go_loop [3] (fun i => ∃ k : Nat, k ≤ s.size ∧ i = .int .i64 k ∧ Hid ((L s).take k ++ cutA 63 ((L s).drop k) = P)) (fun i => s.size - (intOf i).toNat)
  case atStart => exact ⟨0, Nat.zero_le _, rfl, h0⟩
  clear h0
  case round =>
    obtain ⟨k, hk, rfl, hr⟩ := hrel
    by_cases hlt : k < s.size
    · have q0 : (0 : Int) ≤ (k : Int) := by omega
      have q1 : (k : Int) < (s.size : Int) := by omega
      have q2 : (k : Int) ≤ (s.size : Int) := by omega
      have hr2 := hr.out
      rw [L_drop hlt, cutA_cons] at hr2
      have ht := L_take hlt
      obtain ⟨c, hc⟩ := name_it s[k]
      rw [hc.out] at hr2 ht
      have hck := hc.out
      by_cases h : c = 63
      · rw [if_pos h, List.append_nil] at hr2
        have HR := Lib.hid hr2
        have e1 : ((c.toNat : Int) == 63) = true := by rw [h]; rfl
        clear hr2 hr ht h
        go_wp2_with fail
        all_goals (try (exfalso; omega))
        go_ret
        refine ⟨ret_str ?_, rfl⟩
        rw [← HR.out]
        apply ByteArray.ext; unfold bs L; rw [ByteArray.data_extract]; apply Array.ext'; simp
      · rw [if_neg h] at hr2
        have HR : Hid ((L s).take (k + 1) ++ cutA 63 ((L s).drop (k + 1)) = P) := by unfold Hid; rw [ht, ← hr2]; simp
        have e1 : ((c.toNat : Int) == 63) = false := by
          rw [beq_eq_false_iff_ne]; intro e; exact h (UInt8.toNat_inj.1 (by show c.toNat = 63; omega))
        clear hr2 hr ht h
        go_wp2_with fail
        all_goals (try (exfalso; omega))
        go_round
        case rel => exact ⟨k + 1, by omega, by go_num, HR⟩
        case measure => simp [intOf]; omega
    · obtain rfl : k = s.size := by omega
      have hr2 := hr.out
      rw [L_take_all, L_drop_all] at hr2
      have HR : Hid (s = bs P) := by unfold Hid; rw [← hr2, cutA_nil, List.append_nil, bs_L]
      clear hr hr2
      go_wp2_with fail
      all_goals (try (exfalso; omega))
      go_ret
      exact ⟨ret_str HR.out, rfl⟩
end Go.Proofs.YtfgaiopkclogmaaGreatDoor
