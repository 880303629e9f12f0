/- Contracts of stamp's two and of the library's Itoa and Repeat as stamp uses them; what the package's tables hold. Contract of stamp's Write and Print: a moment in a form. -/
import Derived.Test.YtjalfddedikibaaGreatDoorShelf
import Derived.Test.YtjalfddedikibaaGreatDoorMc
import Derived.Test.YtjalfddedikibaaGreatDoorMk
import Derived.Lib.ItoaLen
import Derived.Deep.RegionHeld3
namespace Go.Proofs.YtjalfddedikibaaGreatDoor
open Go Go.RowKit
set_option maxHeartbeats 1000000


theorem dec1 (n : Nat) (h : n ≤ 9) : Lib.decDigits n = [UInt8.ofNat (48 + n)] := by
  rw [Lib.decDigits, dif_pos (show n < 10 by omega)]
theorem decS (n : Nat) (h : 10 ≤ n) : Lib.decDigits n = Lib.decDigits (n / 10) ++ [UInt8.ofNat (48 + n % 10)] := by
  rw [Lib.decDigits, dif_neg (show ¬ n < 10 by omega)]
theorem dec_two (n : Nat) (h : 10 ≤ n) (h1 : n ≤ 99) : Lib.decDigits n = Stm.d2 n := by
  rw [decS n h, dec1 _ (by omega)]
  unfold Stm.d2
  rw [show ((n : Int) / 10).toNat = n / 10 by omega, show ((n : Int) % 10).toNat = n % 10 by omega]
  rfl
/-- a number of two digits, of another sign in place of a 0 ahead -/
def twoL (c : UInt8) (n : Int) : List UInt8 := if n < 10 then c :: [UInt8.ofNat (48 + n.toNat)] else Stm.d2 n
theorem twoL_len (c : UInt8) (n : Int) : (twoL c n).length = 2 := by unfold twoL; split <;> rfl
theorem twoL_48 (n : Int) (h0 : 0 ≤ n) : twoL 48 n = Stm.d2 n := by
  unfold twoL
  split
  · unfold Stm.d2
    rw [show (n / 10).toNat = 0 by omega, show n % 10 = n by omega]; rfl
  · rfl
theorem grow_below (w : World) (k : Nat) (os : Array Obj) : Below w.heap.size w (Sort.grow (w.drewN k) os) :=
  ⟨rfl, rfl, rfl, by show w.heap.size ≤ (w.heap ++ os).size; rw [Array.size_append]; omega, fun j hj => by
    show (w.heap ++ os)[j]? = _
    rw [Array.getElem?_append_left hj]⟩
def itoaL (n : Int) : List UInt8 := Lib.itoa n
theorem itoa_four (n : Int) (h0 : 1 ≤ n) (h1 : n ≤ 9999) : (itoaL n).length ≤ 4 ∧ 1 ≤ (itoaL n).length ∧ List.replicate (4 - (itoaL n).length) 48 ++ itoaL n = Stm.d4 n := by
  obtain ⟨k, rfl⟩ := Int.eq_ofNat_of_zero_le (show 0 ≤ n by omega)
  have e : itoaL k = Lib.decDigits k := by unfold itoaL Lib.itoa; rw [if_neg (by omega)]; rfl
  rw [e]
  have hd : Stm.d4 k = [UInt8.ofNat (48 + k / 1000), UInt8.ofNat (48 + k / 100 % 10), UInt8.ofNat (48 + k / 10 % 10), UInt8.ofNat (48 + k % 10)] := by
    unfold Stm.d4 Stm.d2
    rw [show ((k : Int) / 100 / 10).toNat = k / 1000 by omega, show ((k : Int) / 100 % 10).toNat = k / 100 % 10 by omega, show ((k : Int) % 100 / 10).toNat = k / 10 % 10 by omega, show ((k : Int) % 100 % 10).toNat = k % 10 by omega]
    rfl
  rw [hd]
  by_cases a : k ≤ 9
  · rw [dec1 k a, show k / 1000 = 0 by omega, show k / 100 % 10 = 0 by omega, show k / 10 % 10 = 0 by omega, show k % 10 = k by omega]
    exact ⟨by simp, by simp, rfl⟩
  · by_cases b : k ≤ 99
    · rw [decS k (by omega), dec1 (k / 10) (by omega), show k / 1000 = 0 by omega, show k / 100 % 10 = 0 by omega, show k / 10 % 10 = k / 10 by omega]
      exact ⟨by simp, by simp, rfl⟩
    · by_cases c : k ≤ 999
      · rw [decS k (by omega), decS (k / 10) (by omega), dec1 (k / 10 / 10) (by omega), show k / 1000 = 0 by omega, show k / 100 % 10 = k / 10 / 10 by omega]
        exact ⟨by simp, by simp, rfl⟩
      · rw [decS k (by omega), decS (k / 10) (by omega), decS (k / 10 / 10) (by omega), dec1 (k / 10 / 10 / 10) (by omega), show k / 1000 = k / 10 / 10 / 10 by omega, show k / 100 % 10 = k / 10 / 10 % 10 by omega]
        exact ⟨by simp, by simp, rfl⟩
end Go.Proofs.YtjalfddedikibaaGreatDoor
namespace Go.Proofs.YtjalfddedikibaaGreatDoor
open Go Go.RowKit
set_option maxHeartbeats 4000000

structure Box7 (w w1 : World) (y mo d h mi s wd : Int) : Prop where
  cells : CellsAt w1 w.heap.size [.int .i64 y, .int .i64 mo, .int .i64 d, .int .i64 h, .int .i64 mi, .int .i64 s, .int .i64 wd]
  env : EnvS w1
  below : Below w.heap.size w w1
theorem Box7.next {w w1 w2 : World} {y mo d h mi s wd : Int} (B : Box7 w w1 y mo d h mi s wd) (hb : Below w1.heap.size w1 w2) : Box7 w w2 y mo d h mi s wd :=
  ⟨B.cells.next hb, B.env.next hb, B.below.trans (hb.mono B.below.size)⟩

theorem Box7.first {w : World} (h : EnvS w) (y mo d hh mi s wd : Int) (t : TypeId) : Box7 w (w.alloc (.cells #[.int .i64 y, .int .i64 mo, .int .i64 d, .int .i64 hh, .int .i64 mi, .int .i64 s, .int .i64 wd] t)) y mo d hh mi s wd :=
  ⟨CellsAt.first w [.int .i64 y, .int .i64 mo, .int .i64 d, .int .i64 hh, .int .i64 mi, .int .i64 s, .int .i64 wd] t, h.alloc _, (Below.refl _ _).alloc (Nat.le_refl _) _⟩
theorem Box7.drewN {w w1 : World} {y mo d h mi s wd : Int} (B : Box7 w w1 y mo d h mi s wd) (n : Nat) : Box7 w (w1.drewN n) y mo d h mi s wd := B.next (below_of_drewN n)
theorem Box7.get {w w1 : World} {y mo d h mi s wd : Int} (B : Box7 w w1 y mo d h mi s wd) : w1.cell? ⟨w.heap.size, 0, none⟩ = some (.int .i64 y) ∧ w1.cell? ⟨w.heap.size, 1, none⟩ = some (.int .i64 mo) ∧ w1.cell? ⟨w.heap.size, 2, none⟩ = some (.int .i64 d) ∧ w1.cell? ⟨w.heap.size, 3, none⟩ = some (.int .i64 h) ∧ w1.cell? ⟨w.heap.size, 4, none⟩ = some (.int .i64 mi) ∧ w1.cell? ⟨w.heap.size, 5, none⟩ = some (.int .i64 s) ∧ w1.cell? ⟨w.heap.size, 6, none⟩ = some (.int .i64 wd) :=
  ⟨B.cells.cell 0 (by simp), B.cells.cell 1 (by simp), B.cells.cell 2 (by simp), B.cells.cell 3 (by simp), B.cells.cell 4 (by simp), B.cells.cell 5 (by simp), B.cells.cell 6 (by simp)⟩
theorem quiet_left {P : Program} {f : FuncId} {args : Array Value} {w : World} {n : Nat} {v : Value}
    (h : Calls P f args (w.drewN n) fun e w' => e = .returned v ∧ w.drewN n = w') : Calls P f args (w.drewN n) fun e w'' => e = .returned v ∧ ∃ m, w'' = w.drewN m :=
  h.mono fun _ _ ⟨he, hm⟩ => ⟨he, n, hm.symm⟩
theorem clk_eq {h mi s : Int} (h0 : 0 ≤ h) (m0 : 0 ≤ mi) (s0 : 0 ≤ s) : bs (Stm.clk h mi s) = bs (twoL 48 h) ++ ⟨#[58]⟩ ++ bs (twoL 48 mi) ++ ⟨#[58]⟩ ++ bs (twoL 48 s) := by
  rw [twoL_48 h h0, twoL_48 mi m0, twoL_48 s s0]
  apply L_inj.1
  simp [L, bs, ByteArray.data_append, Stm.clk]
theorem short_of (k : Nat) (hk : k < 7) : bs (Stm.shortN.getD k []) = (bs (Stm.longN.getD k [])).extract 0 3 ∧ (3 : Int) ≤ (bs (Stm.longN.getD k [])).size := by
  have : k = 0 ∨ k = 1 ∨ k = 2 ∨ k = 3 ∨ k = 4 ∨ k = 5 ∨ k = 6 := by omega
  rcases this with rfl | rfl | rfl | rfl | rfl | rfl | rfl <;> exact ⟨rfl, by decide⟩
theorem text0 (k j : Nat) (hk : k < 7) (y d h mi s : Int) (d0 : 0 ≤ d) : bs (writeL 0 y ((j : Int) + 1) d h mi s k) = (bs (Stm.longN.getD k [])).extract 0 3 ++ ⟨#[44, 32]⟩ ++ bs (twoL 48 d) ++ ⟨#[32]⟩ ++ bs (Stm.monN.getD j []) ++ ⟨#[32]⟩ ++ bs (Stm.d4 y) ++ ⟨#[32]⟩ ++ bs (Stm.clk h mi s) ++ ⟨#[32, 71, 77, 84]⟩ := by
  rw [← (short_of k hk).1, twoL_48 d d0]
  unfold writeL
  rw [show ((j : Int) + 1 - 1).toNat = j by omega, show (k : Int).toNat = k by omega]
  apply L_inj.1
  simp [L, bs, ByteArray.data_append, Stm.txt]
theorem text1 (k j : Nat) (y d h mi s : Int) (d0 : 0 ≤ d) : bs (writeL 1 y ((j : Int) + 1) d h mi s k) = bs (Stm.longN.getD k []) ++ ⟨#[44, 32]⟩ ++ bs (twoL 48 d) ++ ⟨#[45]⟩ ++ bs (Stm.monN.getD j []) ++ ⟨#[45]⟩ ++ (bs (Stm.d4 y)).extract 2 4 ++ ⟨#[32]⟩ ++ bs (Stm.clk h mi s) ++ ⟨#[32, 71, 77, 84]⟩ := by
  rw [show (bs (Stm.d4 y)).extract 2 4 = bs (Stm.d2 (y % 100)) from rfl, twoL_48 d d0]
  unfold writeL
  rw [show ((j : Int) + 1 - 1).toNat = j by omega, show (k : Int).toNat = k by omega]
  apply L_inj.1
  simp [L, bs, ByteArray.data_append, Stm.txt]
theorem text2 (k j : Nat) (hk : k < 7) (y d h mi s : Int) : bs (writeL 2 y ((j : Int) + 1) d h mi s k) = (bs (Stm.longN.getD k [])).extract 0 3 ++ ⟨#[32]⟩ ++ bs (Stm.monN.getD j []) ++ ⟨#[32]⟩ ++ bs (twoL 32 d) ++ ⟨#[32]⟩ ++ bs (Stm.clk h mi s) ++ ⟨#[32]⟩ ++ bs (Stm.d4 y) := by
  rw [← (short_of k hk).1]
  unfold writeL twoL
  rw [show ((j : Int) + 1 - 1).toNat = j by omega, show (k : Int).toNat = k by omega]
  apply L_inj.1
  by_cases hd : d < 10 <;> simp [L, bs, ByteArray.data_append, Stm.txt, hd]

end Go.Proofs.YtjalfddedikibaaGreatDoor
