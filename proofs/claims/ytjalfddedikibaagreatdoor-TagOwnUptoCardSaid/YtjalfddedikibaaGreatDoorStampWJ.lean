/- Contracts of the document's digits, names and pattern. -/
import Derived.Test.YtjalfddedikibaaGreatDoorMc
import Derived.Test.YtjalfddedikibaaGreatDoorMb
import Derived.Test.YtjalfddedikibaaGreatDoorMj
namespace Go.Proofs.YtjalfddedikibaaGreatDoor
open Go Go.RowKit
set_option maxHeartbeats 1000000

/-- n in so many digits -/
def digW (n : Int) : Nat → List UInt8
  | 0 => []
  | w + 1 => digW (n / 10) w ++ [UInt8.ofNat (48 + (n % 10).toNat)]
theorem digW_len (n : Int) (w : Nat) : (digW n w).length = w := by
  induction w generalizing n with
  | zero => rfl
  | succ w ih => simp [digW, ih]
theorem digW_1 (n : Int) (h0 : 0 ≤ n) (h1 : n ≤ 9) : digW n 1 = [UInt8.ofNat (48 + n.toNat)] := by
  simp only [digW, List.nil_append]; rw [show n % 10 = n by omega]
theorem digW_2 (n : Int) (_h0 : 0 ≤ n) : digW n 2 = Stm.d2 (n % 100) := by
  simp only [digW, List.nil_append, Stm.d2, List.cons_append]
  rw [show n / 10 % 10 = n % 100 / 10 by omega, show n % 100 % 10 = n % 10 by omega]
theorem digW_4 (n : Int) (h0 : 0 ≤ n) (h1 : n ≤ 9999) : digW n 4 = Stm.d4 n := by
  simp only [digW, List.nil_append, Stm.d4, Stm.d2, List.cons_append]
  rw [show n / 10 / 10 / 10 % 10 = n / 100 / 10 by omega, show n / 10 / 10 % 10 = n / 100 % 10 by omega, show n / 10 % 10 = n % 100 / 10 by omega, show n % 100 % 10 = n % 10 by omega]
theorem chr_nat (n : Nat) (h : n ≤ 9) : ((UInt8.ofNat (48 + n)).toNat : Int) = 48 + (n : Int) := by
  have : n = 0 ∨ n = 1 ∨ n = 2 ∨ n = 3 ∨ n = 4 ∨ n = 5 ∨ n = 6 ∨ n = 7 ∨ n = 8 ∨ n = 9 := by omega
  rcases this with rfl | rfl | rfl | rfl | rfl | rfl | rfl | rfl | rfl | rfl <;> rfl

set_option maxRecDepth 100000 in
theorem rlong_any (n : Nat) (w : World) (h : n < 7) :
    Calls Tryz.prog 93 #[.int .i64 n] w fun e w' => e = .returned (.string (bs (Stm.longN.getD n []))) ∧ Below w.heap.size w w' := by
  have : n = 0 ∨ n = 1 ∨ n = 2 ∨ n = 3 ∨ n = 4 ∨ n = 5 ∨ n = 6 := by omega
  rcases this with rfl | rfl | rfl | rfl | rfl | rfl | rfl
  all_goals
    go_enter Tryz.func93, Tryz.ntmps93
    go_wp2_with fail
    go_ret
    exact ⟨rfl, (Below.refl _ _).alloc (Nat.le_refl _) _⟩
set_option maxRecDepth 100000 in
theorem rshort_any (n : Nat) (w : World) (h : n < 7) :
    Calls Tryz.prog 92 #[.int .i64 n] w fun e w' => e = .returned (.string (bs (Stm.shortN.getD n []))) ∧ Below w.heap.size w w' := by
  have hx : Hid ((bs (Stm.longN.getD n [])).extract 0 3 = bs (Stm.shortN.getD n []) ∧ 3 ≤ (bs (Stm.longN.getD n [])).size) := by
    have : n = 0 ∨ n = 1 ∨ n = 2 ∨ n = 3 ∨ n = 4 ∨ n = 5 ∨ n = 6 := by omega
    rcases this with rfl | rfl | rfl | rfl | rfl | rfl | rfl <;> exact ⟨rfl, by decide⟩
  obtain ⟨X, hX⟩ := name_it (Stm.longN.getD n [])
  rw [hX.out] at hx
  have hsz := hx.out.2
  go_enter Tryz.func92, Tryz.ntmps92
  go_wp2_with fail
  refine (rlong_any n _ h).mono ?_; rintro e w1 ⟨rfl, hb⟩
  rw [hX.out]
  go_wp2_with fail
  all_goals (try (exfalso; omega))
  go_ret
  exact ⟨by rw [hx.out.1]; rfl, hb⟩
set_option maxRecDepth 100000 in
theorem rmonth_any (n : Nat) (w : World) (h : n < 12) :
    Calls Tryz.prog 127 #[.int .i64 n] w fun e w' => e = .returned (.string (bs (Stm.monN.getD n []))) ∧ w = w' := by
  have : n = 0 ∨ n = 1 ∨ n = 2 ∨ n = 3 ∨ n = 4 ∨ n = 5 ∨ n = 6 ∨ n = 7 ∨ n = 8 ∨ n = 9 ∨ n = 10 ∨ n = 11 := by omega
  rcases this with rfl | rfl | rfl | rfl | rfl | rfl | rfl | rfl | rfl | rfl | rfl | rfl
  all_goals
    go_enter Tryz.func127, Tryz.ntmps127
    go_wp2_with fail
    go_ret
    exact ⟨rfl, rfl⟩
theorem rlongI (x : Int) (w : World) (h0 : 0 ≤ x) (h1 : x ≤ 6) : Calls Tryz.prog 93 #[.int .i64 x] w fun e w' => e = .returned (.string (bs (Stm.longN.getD x.toNat []))) ∧ Below w.heap.size w w' := by
  obtain ⟨n, rfl⟩ := Int.eq_ofNat_of_zero_le h0
  exact rlong_any n w (by omega)
theorem rshortI (x : Int) (w : World) (h0 : 0 ≤ x) (h1 : x ≤ 6) : Calls Tryz.prog 92 #[.int .i64 x] w fun e w' => e = .returned (.string (bs (Stm.shortN.getD x.toNat []))) ∧ Below w.heap.size w w' := by
  obtain ⟨n, rfl⟩ := Int.eq_ofNat_of_zero_le h0
  exact rshort_any n w (by omega)
theorem rmonthI (x : Int) (w : World) (h0 : 0 ≤ x) (h1 : x ≤ 11) : Calls Tryz.prog 127 #[.int .i64 x] w fun e w' => e = .returned (.string (bs (Stm.monN.getD x.toNat []))) ∧ w = w' := by
  obtain ⟨n, rfl⟩ := Int.eq_ofNat_of_zero_le h0
  exact rmonth_any n w (by omega)
def patL (form : Int) : List UInt8 :=
  if form = 0 then [119, 44, 32, 100, 32, 109, 32, 121, 32, 104, 58, 105, 58, 115, 32, 71, 77, 84]
  else if form = 1 then [108, 44, 32, 100, 45, 109, 45, 99, 32, 104, 58, 105, 58, 115, 32, 71, 77, 84]
  else [119, 32, 109, 32, 101, 32, 104, 58, 105, 58, 115, 32, 121]
theorem rpattern_any (form : Int) (w : World) :
    Calls Tryz.prog 94 #[.int .i64 form] w fun e w' => e = .returned (.string (bs (patL form))) ∧ w = w' := by
  by_cases h0 : form = 0
  · subst h0
    go_enter Tryz.func94, Tryz.ntmps94
    go_wp2_with fail
    go_ret
    exact ⟨rfl, rfl⟩
  · by_cases h1 : form = 1
    · subst h1
      go_enter Tryz.func94, Tryz.ntmps94
      go_wp2_with fail
      go_ret
      exact ⟨rfl, rfl⟩
    · have hp : Hid (patL form = [119, 32, 109, 32, 101, 32, 104, 58, 105, 58, 115, 32, 121]) := by unfold Hid patL; rw [if_neg h0, if_neg h1]
      have e0 : (form == 0) = false := by simpa using h0
      have e1 : (form == 1) = false := by simpa using h1
      go_enter Tryz.func94, Tryz.ntmps94
      go_wp2_with fail
      go_ret
      exact ⟨by rw [hp.out]; rfl, rfl⟩
end Go.Proofs.YtjalfddedikibaaGreatDoor
