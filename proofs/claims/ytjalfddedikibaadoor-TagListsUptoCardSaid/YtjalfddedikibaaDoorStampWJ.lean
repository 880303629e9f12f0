/- Contracts of the document's digits, names and pattern. -/
import Derived.Test.YtjalfddedikibaaDoorMc
import Derived.Test.YtjalfddedikibaaDoorMb
import Derived.Test.YtjalfddedikibaaDoorStampDJ
namespace Go.Proofs.YtjalfddedikibaaDoor
open Go Go.RowKit
set_option maxHeartbeats 1000000

/-- n in so many digits -/
def digW (n : Int) : Nat → List UInt8
  | 0 => []
  | w + 1 => digW (n / 10) w ++ [UInt8.ofNat (48 + (n % 10).toNat)]
theorem digW_len (n : Int) (w : Nat) : (digW n w).length = w := by
  induction w generalizing n with
  | zero => rfl
  | succ w ih => simp [digW, ih]
theorem digW_1 (n : Int) (h0 : 0 ≤ n) (h1 : n ≤ 9) : digW n 1 = [UInt8.ofNat (48 + n.toNat)] := by
  simp only [digW, List.nil_append]; rw [show n % 10 = n by omega]
theorem digW_2 (n : Int) (_h0 : 0 ≤ n) : digW n 2 = Stm.d2 (n % 100) := by
  simp only [digW, List.nil_append, Stm.d2, List.cons_append]
  rw [show n / 10 % 10 = n % 100 / 10 by omega, show n % 100 % 10 = n % 10 by omega]
theorem digW_4 (n : Int) (h0 : 0 ≤ n) (h1 : n ≤ 9999) : digW n 4 = Stm.d4 n := by
  simp only [digW, List.nil_append, Stm.d4, Stm.d2, List.cons_append]
  rw [show n / 10 / 10 / 10 % 10 = n / 100 / 10 by omega, show n / 10 / 10 % 10 = n / 100 % 10 by omega, show n / 10 % 10 = n % 100 / 10 by omega, show n % 100 % 10 = n % 10 by omega]
theorem chr_nat (n : Nat) (h : n ≤ 9) : ((UInt8.ofNat (48 + n)).toNat : Int) = 48 + (n : Int) := by
  have : n = 0 ∨ n = 1 ∨ n = 2 ∨ n = 3 ∨ n = 4 ∨ n = 5 ∨ n = 6 ∨ n = 7 ∨ n = 8 ∨ n = 9 := by omega
  rcases this with rfl | rfl | rfl | rfl | rfl | rfl | rfl | rfl | rfl | rfl <;> rfl

def patL (form : Int) : List UInt8 :=
  if form = 0 then [119, 44, 32, 100, 32, 109, 32, 121, 32, 104, 58, 105, 58, 115, 32, 71, 77, 84]
  else if form = 1 then [108, 44, 32, 100, 45, 109, 45, 99, 32, 104, 58, 105, 58, 115, 32, 71, 77, 84]
  else [119, 32, 109, 32, 101, 32, 104, 58, 105, 58, 115, 32, 121]
end Go.Proofs.YtjalfddedikibaaDoor
