/- Contracts of the document's digits, names and pattern. -/
import Derived.Test.YtmfnofpphnlbnaaDoorOwn
import Derived.Test.YtmfnofpphnlbnaaDoorStmC
import Derived.Test.YtmfnofpphnlbnaaDoorStampD
namespace Go.Proofs.YtmfnofpphnlbnaaDoor
open Go Go.RowKit
set_option maxHeartbeats 1000000

/-- n in so many digits -/
def digW (n : Int) : Nat → List UInt8
  | 0 => []
  | w + 1 => digW (n / 10) w ++ [UInt8.ofNat (48 + (n % 10).toNat)]
theorem digW_len (n : Int) (w : Nat) : (digW n w).length = w := by
  induction w generalizing n with
  | zero => rfl
  | succ w ih => simp [digW, ih]
theorem digW_1 (n : Int) (h0 : 0 ≤ n) (h1 : n ≤ 9) : digW n 1 = [UInt8.ofNat (48 + n.toNat)] := by
  simp only [digW, List.nil_append]; rw [show n % 10 = n by omega]
theorem digW_2 (n : Int) (_h0 : 0 ≤ n) : digW n 2 = Stm.d2 (n % 100) := by
  simp only [digW, List.nil_append, Stm.d2, List.cons_append]
  rw [show n / 10 % 10 = n % 100 / 10 by omega, show n % 100 % 10 = n % 10 by omega]
theorem digW_4 (n : Int) (h0 : 0 ≤ n) (h1 : n ≤ 9999) : digW n 4 = Stm.d4 n := by
  simp only [digW, List.nil_append, Stm.d4, Stm.d2, List.cons_append]
  rw [show n / 10 / 10 / 10 % 10 = n / 100 / 10 by omega, show n / 10 / 10 % 10 = n / 100 % 10 by omega, show n / 10 % 10 = n % 100 / 10 by omega, show n % 100 % 10 = n % 10 by omega]
theorem chr_nat (n : Nat) (h : n ≤ 9) : ((UInt8.ofNat (48 + n)).toNat : Int) = 48 + (n : Int) := by
  have : n = 0 ∨ n = 1 ∨ n = 2 ∨ n = 3 ∨ n = 4 ∨ n = 5 ∨ n = 6 ∨ n = 7 ∨ n = 8 ∨ n = 9 := by omega
  rcases this with rfl | rfl | rfl | rfl | rfl | rfl | rfl | rfl | rfl | rfl <;> rfl

set_option maxRecDepth 100000 in
theorem rdigs_any (N : Int) (W : Nat) (w : World) (h0 : 0 ≤ N) (h1 : N ≤ 1000000) (hW : W ≤ 20) :
    Calls Tryd.prog 44 #[.int .i64 N, .int .i64 W] w fun e w' => e = .returned (.string (bs (digW N W))) ∧ Below w.heap.size w w' := by
  obtain ⟨R, hR⟩ := name_it (digW N W)
  rw [hR.out]
  have hWi : (W : Int) ≤ 20 := by omega
  go_enter Tryd.func44, Tryd.ntmps44
  go_wp2_with fail
  go_loopw [0, 5, 6] (fun n s i wr => ∃ (k : Nat) (m : Int) (o : List UInt8), k ≤ W ∧ i = .int .i64 k ∧ n = .int .i64 m ∧ s = .string (bs o) ∧ 0 ≤ m ∧ m ≤ N ∧ o.length = k ∧ Hid (digW m (W - k) ++ o = R) ∧ Below w.heap.size w wr) (fun _ _ i _ => W - (intOf i).toNat)
  case atStart => exact ⟨0, N, [], Nat.zero_le _, rfl, rfl, rfl, h0, by omega, rfl, by unfold Hid; rw [List.append_nil]; exact hR.out, Below.refl _ _⟩
  case round =>
    obtain ⟨k, m, o, hk, rfl, rfl, rfl, hm0, hm1, hol, hmo, hbr⟩ := hrel
    have hsz : (bs o).size ≤ 20 := by rw [size_bs]; omega
    by_cases hlt : k < W
    · obtain ⟨c, hc⟩ := name_it (UInt8.ofNat (48 + (m % 10).toNat))
      have hcn := chr_nat (m % 10).toNat (by omega)
      rw [hc.out] at hcn
      have hce : (c.toNat : Int) = 48 + m % 10 := by omega
      have hmo2 : Hid (digW (m / 10) (W - (k + 1)) ++ (c :: o) = R) := by
        have := hmo.out
        rw [show W - k = W - (k + 1) + 1 by omega] at this
        rw [← this]
        unfold Hid
        simp only [digW, hc.out, List.append_assoc, List.cons_append, List.nil_append]
      have hol2 : (c :: o).length = k + 1 := by simp [hol]
      have hcc : bs (c :: o) = bs [c] ++ bs o := rfl
      have hbw := hbr.alloc hbr.size (.cells #[.int .u8 (c.toNat : Int)] 5)
      have hconv : (convert 86 9 (.slice (some ⟨wr.heap.size, 0, none⟩) 1 1)).run Tryd.prog (wr.alloc (.cells #[.int .u8 (c.toNat : Int)] 5)) = .ok (.string (bs [c])) (wr.alloc (.cells #[.int .u8 (c.toNat : Int)] 5)) :=
        own_string 86 9 5 (base := wr.heap.size) (l := [c]) (World.ownsRow_lit wr #[.int .u8 (c.toNat : Int)] 1 (Nat.le_refl _) (by unfold maxLen; omega) rfl) Tryd.underlying86 Tryd.underlying5 Tryd.underlying9
      have hb1 : (bs [c]).size = 1 := rfl
      rw [hce] at hconv hbw
      have hm10 : 0 ≤ m % 10 := by omega
      have hm11 : m % 10 ≤ 9 := by omega
      clear hcn hc hol hmo hce
      go_wp2_with fail
      all_goals (try (exfalso; omega))
      go_roundw
      case rel => exact ⟨k + 1, m / 10, c :: o, by omega, by go_num, rfl, by rw [hcc], by omega, by omega, hol2, hmo2, hbw⟩
      case measure => simp [intOf]; omega
    · obtain rfl : k = W := by omega
      have hf : Hid (o = R) := by
        have := hmo.out
        rw [Nat.sub_self] at this
        exact this
      go_wp2_with fail
      all_goals (try (exfalso; omega))
      go_ret
      exact ⟨by rw [hf.out]; rfl, hbr⟩

theorem rdigs1 (N : Int) (w : World) (h0 : 0 ≤ N) (h1 : N ≤ 1000000) : Calls Tryd.prog 44 #[.int .i64 N, .int .i64 1] w fun e w' => e = .returned (.string (bs (digW N 1))) ∧ Below w.heap.size w w' := rdigs_any N 1 w h0 h1 (by decide)
theorem rdigs2 (N : Int) (w : World) (h0 : 0 ≤ N) (h1 : N ≤ 1000000) : Calls Tryd.prog 44 #[.int .i64 N, .int .i64 2] w fun e w' => e = .returned (.string (bs (digW N 2))) ∧ Below w.heap.size w w' := rdigs_any N 2 w h0 h1 (by decide)
theorem rdigs4 (N : Int) (w : World) (h0 : 0 ≤ N) (h1 : N ≤ 1000000) : Calls Tryd.prog 44 #[.int .i64 N, .int .i64 4] w fun e w' => e = .returned (.string (bs (digW N 4))) ∧ Below w.heap.size w w' := rdigs_any N 4 w h0 h1 (by decide)
set_option maxRecDepth 100000 in
theorem rlong_any (n : Nat) (w : World) (h : n < 7) :
    Calls Tryd.prog 42 #[.int .i64 n] w fun e w' => e = .returned (.string (bs (Stm.longN.getD n []))) ∧ Below w.heap.size w w' := by
  have : n = 0 ∨ n = 1 ∨ n = 2 ∨ n = 3 ∨ n = 4 ∨ n = 5 ∨ n = 6 := by omega
  rcases this with rfl | rfl | rfl | rfl | rfl | rfl | rfl
  all_goals
    go_enter Tryd.func42, Tryd.ntmps42
    go_wp2_with fail
    go_ret
    exact ⟨rfl, (Below.refl _ _).alloc (Nat.le_refl _) _⟩
set_option maxRecDepth 100000 in
theorem rshort_any (n : Nat) (w : World) (h : n < 7) :
    Calls Tryd.prog 41 #[.int .i64 n] w fun e w' => e = .returned (.string (bs (Stm.shortN.getD n []))) ∧ Below w.heap.size w w' := by
  have hx : Hid ((bs (Stm.longN.getD n [])).extract 0 3 = bs (Stm.shortN.getD n []) ∧ 3 ≤ (bs (Stm.longN.getD n [])).size) := by
    have : n = 0 ∨ n = 1 ∨ n = 2 ∨ n = 3 ∨ n = 4 ∨ n = 5 ∨ n = 6 := by omega
    rcases this with rfl | rfl | rfl | rfl | rfl | rfl | rfl <;> exact ⟨rfl, by decide⟩
  obtain ⟨X, hX⟩ := name_it (Stm.longN.getD n [])
  rw [hX.out] at hx
  have hsz := hx.out.2
  go_enter Tryd.func41, Tryd.ntmps41
  go_wp2_with fail
  refine (rlong_any n _ h).mono ?_; rintro e w1 ⟨rfl, hb⟩
  rw [hX.out]
  go_wp2_with fail
  all_goals (try (exfalso; omega))
  go_ret
  exact ⟨by rw [hx.out.1]; rfl, hb⟩
set_option maxRecDepth 100000 in
theorem rmonth_any (n : Nat) (w : World) (h : n < 12) :
    Calls Tryd.prog 43 #[.int .i64 n] w fun e w' => e = .returned (.string (bs (Stm.monN.getD n []))) ∧ w = w' := by
  have : n = 0 ∨ n = 1 ∨ n = 2 ∨ n = 3 ∨ n = 4 ∨ n = 5 ∨ n = 6 ∨ n = 7 ∨ n = 8 ∨ n = 9 ∨ n = 10 ∨ n = 11 := by omega
  rcases this with rfl | rfl | rfl | rfl | rfl | rfl | rfl | rfl | rfl | rfl | rfl | rfl
  all_goals
    go_enter Tryd.func43, Tryd.ntmps43
    go_wp2_with fail
    go_ret
    exact ⟨rfl, rfl⟩
theorem rlongI (x : Int) (w : World) (h0 : 0 ≤ x) (h1 : x ≤ 6) : Calls Tryd.prog 42 #[.int .i64 x] w fun e w' => e = .returned (.string (bs (Stm.longN.getD x.toNat []))) ∧ Below w.heap.size w w' := by
  obtain ⟨n, rfl⟩ := Int.eq_ofNat_of_zero_le h0
  exact rlong_any n w (by omega)
theorem rshortI (x : Int) (w : World) (h0 : 0 ≤ x) (h1 : x ≤ 6) : Calls Tryd.prog 41 #[.int .i64 x] w fun e w' => e = .returned (.string (bs (Stm.shortN.getD x.toNat []))) ∧ Below w.heap.size w w' := by
  obtain ⟨n, rfl⟩ := Int.eq_ofNat_of_zero_le h0
  exact rshort_any n w (by omega)
theorem rmonthI (x : Int) (w : World) (h0 : 0 ≤ x) (h1 : x ≤ 11) : Calls Tryd.prog 43 #[.int .i64 x] w fun e w' => e = .returned (.string (bs (Stm.monN.getD x.toNat []))) ∧ w = w' := by
  obtain ⟨n, rfl⟩ := Int.eq_ofNat_of_zero_le h0
  exact rmonth_any n w (by omega)
def patL (form : Int) : List UInt8 :=
  if form = 0 then [119, 44, 32, 100, 32, 109, 32, 121, 32, 104, 58, 105, 58, 115, 32, 71, 77, 84]
  else if form = 1 then [108, 44, 32, 100, 45, 109, 45, 99, 32, 104, 58, 105, 58, 115, 32, 71, 77, 84]
  else [119, 32, 109, 32, 101, 32, 104, 58, 105, 58, 115, 32, 121]
theorem rpattern_any (form : Int) (w : World) :
    Calls Tryd.prog 40 #[.int .i64 form] w fun e w' => e = .returned (.string (bs (patL form))) ∧ w = w' := by
  by_cases h0 : form = 0
  · subst h0
    go_enter Tryd.func40, Tryd.ntmps40
    go_wp2_with fail
    go_ret
    exact ⟨rfl, rfl⟩
  · by_cases h1 : form = 1
    · subst h1
      go_enter Tryd.func40, Tryd.ntmps40
      go_wp2_with fail
      go_ret
      exact ⟨rfl, rfl⟩
    · have hp : Hid (patL form = [119, 32, 109, 32, 101, 32, 104, 58, 105, 58, 115, 32, 121]) := by unfold Hid patL; rw [if_neg h0, if_neg h1]
      have e0 : (form == 0) = false := by simpa using h0
      have e1 : (form == 1) = false := by simpa using h1
      go_enter Tryd.func40, Tryd.ntmps40
      go_wp2_with fail
      go_ret
      exact ⟨by rw [hp.out]; rfl, rfl⟩
end Go.Proofs.YtmfnofpphnlbnaaDoor
