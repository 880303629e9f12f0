/- Contracts of stamp's two and of the library's Itoa and Repeat as stamp uses them; what the package's tables hold. -/
import Derived.Test.YtmfnofpphnlbnaaDoorShelf
import Derived.Test.YtmfnofpphnlbnaaDoorStampXb
import Derived.Lib.ItoaLen
namespace Go.Proofs.YtmfnofpphnlbnaaDoor
open Go Go.RowKit
set_option maxHeartbeats 1000000

theorem gPow : Tryd.prog.globalNamed "internal/strconv.uint64pow10" = some 3 := by kernel_rfl
/-- what the variables of stamp and of strconv hold -/
structure EnvS (w : World) : Prop where
  n : 6 ≤ w.heap.size
  pow : Lib.TabIs Tryd.prog w "internal/strconv.uint64pow10" .u64 Lib.pow10Tab
  week : ∀ j, j < 7 → w.cell? ⟨0, j, none⟩ = some (.string (bs (Stm.longN.getD j [])))
  mon : ∀ j, j < 12 → w.cell? ⟨1, j, none⟩ = some (.string (bs (Stm.monN.getD j [])))
theorem EnvS.next {w w' : World} (h : EnvS w) (hb : Below w.heap.size w w') : EnvS w' where
  n := Nat.le_trans h.n hb.size
  pow := var?_below hb gPow (Nat.lt_of_lt_of_le (by decide) h.n) h.pow
  week j hj := by rw [hb.cell (p := ⟨0, j, none⟩) (Nat.lt_of_lt_of_le (by show 0 < 6; decide) h.n)]; exact h.week j hj
  mon j hj := by rw [hb.cell (p := ⟨1, j, none⟩) (Nat.lt_of_lt_of_le (by show 1 < 6; decide) h.n)]; exact h.mon j hj
theorem EnvS.alloc {w : World} (h : EnvS w) (o : Obj) : EnvS (w.alloc o) := h.next ((Below.refl _ _).alloc (Nat.le_refl _) _)

theorem dec1 (n : Nat) (h : n ≤ 9) : Lib.decDigits n = [UInt8.ofNat (48 + n)] := by
  rw [Lib.decDigits, dif_pos (show n < 10 by omega)]
theorem decS (n : Nat) (h : 10 ≤ n) : Lib.decDigits n = Lib.decDigits (n / 10) ++ [UInt8.ofNat (48 + n % 10)] := by
  rw [Lib.decDigits, dif_neg (show ¬ n < 10 by omega)]
theorem dec_two (n : Nat) (h : 10 ≤ n) (h1 : n ≤ 99) : Lib.decDigits n = Stm.d2 n := by
  rw [decS n h, dec1 _ (by omega)]
  unfold Stm.d2
  rw [show ((n : Int) / 10).toNat = n / 10 by omega, show ((n : Int) % 10).toNat = n % 10 by omega]
  rfl
/-- a number of two digits, of another sign in place of a 0 ahead -/
def twoL (c : UInt8) (n : Int) : List UInt8 := if n < 10 then c :: [UInt8.ofNat (48 + n.toNat)] else Stm.d2 n
theorem twoL_len (c : UInt8) (n : Int) : (twoL c n).length = 2 := by unfold twoL; split <;> rfl
theorem twoL_48 (n : Int) (h0 : 0 ≤ n) : twoL 48 n = Stm.d2 n := by
  unfold twoL
  split
  · unfold Stm.d2
    rw [show (n / 10).toNat = 0 by omega, show n % 10 = n by omega]; rfl
  · rfl
theorem two_any (n : Int) (c : UInt8) (w : World) (h0 : 0 ≤ n) (h1 : n ≤ 99) :
    Calls Tryd.prog 37 #[.int .i64 n, .string ⟨#[c]⟩] w fun e w' => e = .returned (.string (bs (twoL c n))) ∧ w = w' := by
  obtain ⟨k, rfl⟩ := Int.eq_ofNat_of_zero_le h0
  obtain ⟨R, hR⟩ := name_it (twoL c k)
  rw [hR.out]
  by_cases hk : k < 10
  · have hf : Hid ((⟨#[c]⟩ : ByteArray) ++ ⟨(Lib.decDigits k).toArray⟩ = bs R) := by
      rw [← hR.out, dec1 k (by omega)]; unfold Hid twoL; rw [if_pos (by omega)]; rfl
    have hs : (ByteArray.mk (Lib.decDigits k).toArray).size = 1 := by rw [dec1 k (by omega)]; rfl
    go_enter Tryd.func37, Tryd.ntmps37
    go_wp2_with fail
    all_goals (try (exfalso; omega))
    refine (Tryd.strconv_Itoa_small k (by omega) _).mono ?_; rintro e w1 ⟨rfl, rfl⟩
    obtain ⟨Z, hZ⟩ := name_it (ByteArray.mk (Lib.decDigits k).toArray)
    rw [hZ.out] at hf hs ⊢
    have hc1 : (ByteArray.mk #[c]).size = 1 := rfl
    go_wp2_with fail
    all_goals (try (exfalso; omega))
    go_ret
    exact ⟨by rw [← hf.out]; rfl, rfl⟩
  · have hf : Hid (ByteArray.mk (Lib.decDigits k).toArray = bs R) := by
      rw [← hR.out, dec_two k (by omega) (by omega)]; unfold Hid twoL; rw [if_neg (by omega)]; rfl
    go_enter Tryd.func37, Tryd.ntmps37
    go_wp2_with fail
    all_goals (try (exfalso; omega))
    refine (Tryd.strconv_Itoa_small k (by omega) _).mono ?_; rintro e w1 ⟨rfl, rfl⟩
    go_wp2_with fail
    all_goals (try (exfalso; omega))
    go_ret
    exact ⟨by rw [← hf.out]; rfl, rfl⟩

/-! strconv.Itoa and strings.Repeat at a year -/
theorem grow_below (w : World) (k : Nat) (os : Array Obj) : Below w.heap.size w (Sort.grow (w.drewN k) os) :=
  ⟨rfl, rfl, rfl, by show w.heap.size ≤ (w.heap ++ os).size; rw [Array.size_append]; omega, fun j hj => by
    show (w.heap ++ os)[j]? = _
    rw [Array.getElem?_append_left hj]⟩
def itoaL (n : Int) : List UInt8 := Lib.itoa n
theorem itoa_y (n : Int) (w : World) (h0 : 0 ≤ n) (h1 : n ≤ 9999) (hE : EnvS w) :
    Calls Tryd.prog 39 #[.int .i64 n] w fun e w' => e = .returned (.string (bs (itoaL n))) ∧ Below w.heap.size w w' := by
  refine (Tryd.strconv_Itoa n (by omega) (by omega) w hE.pow).mono ?_
  rintro e w1 ⟨rfl, k, os, rfl⟩
  exact ⟨rfl, grow_below w k os⟩
theorem itoa_four (n : Int) (h0 : 1 ≤ n) (h1 : n ≤ 9999) : (itoaL n).length ≤ 4 ∧ 1 ≤ (itoaL n).length ∧ List.replicate (4 - (itoaL n).length) 48 ++ itoaL n = Stm.d4 n := by
  obtain ⟨k, rfl⟩ := Int.eq_ofNat_of_zero_le (show 0 ≤ n by omega)
  have e : itoaL k = Lib.decDigits k := by unfold itoaL Lib.itoa; rw [if_neg (by omega)]; rfl
  rw [e]
  have hd : Stm.d4 k = [UInt8.ofNat (48 + k / 1000), UInt8.ofNat (48 + k / 100 % 10), UInt8.ofNat (48 + k / 10 % 10), UInt8.ofNat (48 + k % 10)] := by
    unfold Stm.d4 Stm.d2
    rw [show ((k : Int) / 100 / 10).toNat = k / 1000 by omega, show ((k : Int) / 100 % 10).toNat = k / 100 % 10 by omega, show ((k : Int) % 100 / 10).toNat = k / 10 % 10 by omega, show ((k : Int) % 100 % 10).toNat = k % 10 by omega]
    rfl
  rw [hd]
  by_cases a : k ≤ 9
  · rw [dec1 k a, show k / 1000 = 0 by omega, show k / 100 % 10 = 0 by omega, show k / 10 % 10 = 0 by omega, show k % 10 = k by omega]
    exact ⟨by simp, by simp, rfl⟩
  · by_cases b : k ≤ 99
    · rw [decS k (by omega), dec1 (k / 10) (by omega), show k / 1000 = 0 by omega, show k / 100 % 10 = 0 by omega, show k / 10 % 10 = k / 10 by omega]
      exact ⟨by simp, by simp, rfl⟩
    · by_cases c : k ≤ 999
      · rw [decS k (by omega), decS (k / 10) (by omega), dec1 (k / 10 / 10) (by omega), show k / 1000 = 0 by omega, show k / 100 % 10 = k / 10 / 10 by omega]
        exact ⟨by simp, by simp, rfl⟩
      · rw [decS k (by omega), decS (k / 10) (by omega), decS (k / 10 / 10) (by omega), dec1 (k / 10 / 10 / 10) (by omega), show k / 1000 = k / 10 / 10 / 10 by omega, show k / 100 % 10 = k / 10 / 10 % 10 by omega]
        exact ⟨by simp, by simp, rfl⟩
set_option maxRecDepth 100000 in
theorem repeat0 (n : Nat) (w : World) (h : n < 4) :
    Calls Tryd.prog 38 #[.string ⟨#[48]⟩, .int .i64 n] w fun e w' => e = .returned (.string (bs (List.replicate n 48))) ∧ w = w' := by
  have : n = 0 ∨ n = 1 ∨ n = 2 ∨ n = 3 := by omega
  rcases this with rfl | rfl | rfl | rfl
  · go_enter Tryd.func38, Tryd.ntmps38
    go_wp2_with fail
    go_ret
    exact ⟨rfl, rfl⟩
  · go_enter Tryd.func38, Tryd.ntmps38
    go_wp2_with fail
    go_ret
    exact ⟨rfl, rfl⟩
  · go_enter Tryd.func38, Tryd.ntmps38
    go_wp2_with fail
    refine (Tryd.bits_Mul 1 2 (by decide) (by decide) _).mono ?_; rintro e w1 ⟨rfl, rfl⟩
    go_wp2_with fail
    refine (Tryd.strings_HasPrefix _ _ _).mono ?_; rintro e w1 ⟨rfl, rfl⟩
    generalize hx : Lib.hasPrefix _ _ = b
    obtain rfl : b = false := by rw [← hx]; rfl
    clear hx
    go_wp2_with fail
    refine (Tryd.strings_HasPrefix _ _ _).mono ?_; rintro e w1 ⟨rfl, rfl⟩
    generalize hx : Lib.hasPrefix _ _ = b
    obtain rfl : b = false := by rw [← hx]; rfl
    clear hx
    go_wp2_with fail
    refine (Tryd.strings_HasPrefix _ _ _).mono ?_; rintro e w1 ⟨rfl, rfl⟩
    generalize hx : Lib.hasPrefix _ _ = b
    obtain rfl : b = true := by rw [← hx]; rfl
    clear hx
    go_wp2_with fail
    go_ret
    exact ⟨rfl, rfl⟩
  · go_enter Tryd.func38, Tryd.ntmps38
    go_wp2_with fail
    refine (Tryd.bits_Mul 1 3 (by decide) (by decide) _).mono ?_; rintro e w1 ⟨rfl, rfl⟩
    go_wp2_with fail
    refine (Tryd.strings_HasPrefix _ _ _).mono ?_; rintro e w1 ⟨rfl, rfl⟩
    generalize hx : Lib.hasPrefix _ _ = b
    obtain rfl : b = false := by rw [← hx]; rfl
    clear hx
    go_wp2_with fail
    refine (Tryd.strings_HasPrefix _ _ _).mono ?_; rintro e w1 ⟨rfl, rfl⟩
    generalize hx : Lib.hasPrefix _ _ = b
    obtain rfl : b = false := by rw [← hx]; rfl
    clear hx
    go_wp2_with fail
    refine (Tryd.strings_HasPrefix _ _ _).mono ?_; rintro e w1 ⟨rfl, rfl⟩
    generalize hx : Lib.hasPrefix _ _ = b
    obtain rfl : b = true := by rw [← hx]; rfl
    clear hx
    go_wp2_with fail
    go_ret
    exact ⟨rfl, rfl⟩
end Go.Proofs.YtmfnofpphnlbnaaDoor
