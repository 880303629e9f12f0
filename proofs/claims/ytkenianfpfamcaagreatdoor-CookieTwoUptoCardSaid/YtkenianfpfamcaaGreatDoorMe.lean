/- Contract of the document's Write: a moment in a form. Contract of the document's Write: the walk. Contracts of stamp's two and of the library's Itoa and Repeat as stamp uses them; what the package's tables hold. Contract of stamp's Write and Print: a moment in a form. Contracts of the document's begins, FormOf, name and number. -/
import Derived.Test.YtkenianfpfamcaaGreatDoorMd
import Derived.Test.YtkenianfpfamcaaGreatDoorShelf
import Derived.Lib.ItoaLen
import Derived.Deep.RegionHeld3
namespace Go.Proofs.YtkenianfpfamcaaGreatDoor
open Go Go.RowKit
set_option maxHeartbeats 1000000

/-- a date in a form -/
def writeL (form : Nat) (y mo d h mi s wd : Int) : List UInt8 :=
  Stm.txt form wd.toNat (mo - 1).toNat (if form = 2 ∧ d < 10 then [32, UInt8.ofNat (48 + d.toNat)] else Stm.d2 d) (if form = 1 then y % 100 else y) h mi s
def writeOf (m : Int) (form : Nat) : List UInt8 :=
  writeL form (Cal.yOf (splitN m)) (Cal.mOf (splitN m)) (Cal.dOf (splitN m)) (splitR m / 3600) (splitR m / 60 % 60) (splitR m % 60) (splitN m % 7)
def okForm (form : Int) : Bool := decide (0 ≤ form ∧ form ≤ 2)
def writeV (m form : Int) : Value :=
  .tuple #[.string (bs (if isMom m then if okForm form then writeOf m form.toNat else [] else [])), .int .i64 (if isMom m then if okForm form then 0 else 44 else 40)]

/-- the fields of a moment's date -/
theorem date_of {m : Int} (hm : isMom m = true) : ∃ y mo d h mi s wd : Int, Hid (splitD m = dateV y mo d h mi s wd) ∧ Hid (∀ form, writeOf m form = writeL form y mo d h mi s wd) ∧ Hid (splitE m = 0) ∧
    (1 ≤ y ∧ y ≤ 9999) ∧ (1 ≤ mo ∧ mo ≤ 12) ∧ (1 ≤ d ∧ d ≤ 31) ∧ (0 ≤ h ∧ h ≤ 23) ∧ (0 ≤ mi ∧ mi ≤ 59) ∧ (0 ≤ s ∧ s ≤ 59) ∧ (0 ≤ wd ∧ wd ≤ 6) := by
  have hd : -62135596800 ≤ m ∧ m ≤ 253402300799 := by unfold isMom at hm; exact of_decide_eq_true hm
  have n0 : 0 ≤ splitN m := by unfold splitN; omega
  have n1 : splitN m < 3652059 := by unfold splitN; omega
  have r0 : 0 ≤ splitR m := by unfold splitR; omega
  have r1 : splitR m < 86400 := by unfold splitR; omega
  have hy := Cal.yOf_ok n0 n1
  obtain ⟨d1, d2, d3, d4, d5⟩ := Cal.isDate_of n0 n1
  have hmd := Cal.mdays_lo (Cal.yOf (splitN m)) (Cal.mOf (splitN m))
  refine ⟨_, _, _, _, _, _, _, ?_, fun form => rfl, ?_, ⟨hy.1, hy.2.1⟩, ⟨d1, d2⟩, ⟨d3, by omega⟩, by omega, by omega, by omega, by omega⟩
  · unfold Hid splitD; rw [if_pos hm]
  · unfold Hid splitE; rw [if_pos hm]

theorem name_len (l : List (List UInt8)) (hl : ∀ x ∈ l, x.length ≤ 9) (n : Nat) : (l.getD n []).length ≤ 9 := by
  rw [List.getD_eq_getElem?_getD]
  cases h : l[n]? with
  | none => simp
  | some x => exact hl x (List.mem_of_getElem? h)
theorem long_len (n : Nat) : (Stm.longN.getD n []).length ≤ 9 := name_len _ (by decide) n
theorem short_len (n : Nat) : (Stm.shortN.getD n []).length ≤ 9 := name_len _ (by decide) n
theorem mon_len (n : Nat) : (Stm.monN.getD n []).length ≤ 9 := name_len _ (by decide) n
end Go.Proofs.YtkenianfpfamcaaGreatDoor
namespace Go.Proofs.YtkenianfpfamcaaGreatDoor
open Go Go.RowKit
set_option maxHeartbeats 2000000

theorem byte_ne {c : UInt8} {n : Nat} {hn : n < 256} (h : c ≠ UInt8.ofNatLT n hn) : ((c.toNat : Int) == (n : Int)) = false := by
  rw [beq_eq_false_iff_ne]
  intro e
  apply h
  apply UInt8.toNat_inj.1
  have : c.toNat = n := by exact_mod_cast e
  rw [this]; rfl

end Go.Proofs.YtkenianfpfamcaaGreatDoor
namespace Go.Proofs.YtkenianfpfamcaaGreatDoor
open Go Go.RowKit
set_option maxHeartbeats 1000000


theorem dec1 (n : Nat) (h : n ≤ 9) : Lib.decDigits n = [UInt8.ofNat (48 + n)] := by
  rw [Lib.decDigits, dif_pos (show n < 10 by omega)]
theorem decS (n : Nat) (h : 10 ≤ n) : Lib.decDigits n = Lib.decDigits (n / 10) ++ [UInt8.ofNat (48 + n % 10)] := by
  rw [Lib.decDigits, dif_neg (show ¬ n < 10 by omega)]
theorem dec_two (n : Nat) (h : 10 ≤ n) (h1 : n ≤ 99) : Lib.decDigits n = Stm.d2 n := by
  rw [decS n h, dec1 _ (by omega)]
  unfold Stm.d2
  rw [show ((n : Int) / 10).toNat = n / 10 by omega, show ((n : Int) % 10).toNat = n % 10 by omega]
  rfl
/-- a number of two digits, of another sign in place of a 0 ahead -/
def twoL (c : UInt8) (n : Int) : List UInt8 := if n < 10 then c :: [UInt8.ofNat (48 + n.toNat)] else Stm.d2 n
theorem twoL_len (c : UInt8) (n : Int) : (twoL c n).length = 2 := by unfold twoL; split <;> rfl
theorem twoL_48 (n : Int) (h0 : 0 ≤ n) : twoL 48 n = Stm.d2 n := by
  unfold twoL
  split
  · unfold Stm.d2
    rw [show (n / 10).toNat = 0 by omega, show n % 10 = n by omega]; rfl
  · rfl
theorem two_any (n : Int) (c : UInt8) (w : World) (h0 : 0 ≤ n) (h1 : n ≤ 99) :
    Calls Tryz.prog 139 #[.int .i64 n, .string ⟨#[c]⟩] w fun e w' => e = .returned (.string (bs (twoL c n))) ∧ w = w' := by
  obtain ⟨k, rfl⟩ := Int.eq_ofNat_of_zero_le h0
  obtain ⟨R, hR⟩ := name_it (twoL c k)
  rw [hR.out]
  by_cases hk : k < 10
  · have hf : Hid ((⟨#[c]⟩ : ByteArray) ++ ⟨(Lib.decDigits k).toArray⟩ = bs R) := by
      rw [← hR.out, dec1 k (by omega)]; unfold Hid twoL; rw [if_pos (by omega)]; rfl
    have hs : (ByteArray.mk (Lib.decDigits k).toArray).size = 1 := by rw [dec1 k (by omega)]; rfl
    go_enter Tryz.func139, Tryz.ntmps139
    go_wp2_with fail
    all_goals (try (exfalso; omega))
    refine (Tryz.strconv_Itoa_small k (by omega) _).mono ?_; rintro e w1 ⟨rfl, rfl⟩
    obtain ⟨Z, hZ⟩ := name_it (ByteArray.mk (Lib.decDigits k).toArray)
    rw [hZ.out] at hf hs ⊢
    have hc1 : (ByteArray.mk #[c]).size = 1 := rfl
    go_wp2_with fail
    all_goals (try (exfalso; omega))
    go_ret
    exact ⟨by rw [← hf.out]; rfl, rfl⟩
  · have hf : Hid (ByteArray.mk (Lib.decDigits k).toArray = bs R) := by
      rw [← hR.out, dec_two k (by omega) (by omega)]; unfold Hid twoL; rw [if_neg (by omega)]; rfl
    go_enter Tryz.func139, Tryz.ntmps139
    go_wp2_with fail
    all_goals (try (exfalso; omega))
    refine (Tryz.strconv_Itoa_small k (by omega) _).mono ?_; rintro e w1 ⟨rfl, rfl⟩
    go_wp2_with fail
    all_goals (try (exfalso; omega))
    go_ret
    exact ⟨by rw [← hf.out]; rfl, rfl⟩

/-! strconv.Itoa and strings.Repeat at a year -/
theorem grow_below (w : World) (k : Nat) (os : Array Obj) : Below w.heap.size w (Sort.grow (w.drewN k) os) :=
  ⟨rfl, rfl, rfl, by show w.heap.size ≤ (w.heap ++ os).size; rw [Array.size_append]; omega, fun j hj => by
    show (w.heap ++ os)[j]? = _
    rw [Array.getElem?_append_left hj]⟩
def itoaL (n : Int) : List UInt8 := Lib.itoa n
theorem itoa_y (n : Int) (w : World) (h0 : 0 ≤ n) (h1 : n ≤ 9999) (hE : EnvS w) :
    Calls Tryz.prog 52 #[.int .i64 n] w fun e w' => e = .returned (.string (bs (itoaL n))) ∧ Below w.heap.size w w' := by
  refine (Tryz.strconv_Itoa n (by omega) (by omega) w hE.pow).mono ?_
  rintro e w1 ⟨rfl, k, os, rfl⟩
  exact ⟨rfl, grow_below w k os⟩
theorem itoa_four (n : Int) (h0 : 1 ≤ n) (h1 : n ≤ 9999) : (itoaL n).length ≤ 4 ∧ 1 ≤ (itoaL n).length ∧ List.replicate (4 - (itoaL n).length) 48 ++ itoaL n = Stm.d4 n := by
  obtain ⟨k, rfl⟩ := Int.eq_ofNat_of_zero_le (show 0 ≤ n by omega)
  have e : itoaL k = Lib.decDigits k := by unfold itoaL Lib.itoa; rw [if_neg (by omega)]; rfl
  rw [e]
  have hd : Stm.d4 k = [UInt8.ofNat (48 + k / 1000), UInt8.ofNat (48 + k / 100 % 10), UInt8.ofNat (48 + k / 10 % 10), UInt8.ofNat (48 + k % 10)] := by
    unfold Stm.d4 Stm.d2
    rw [show ((k : Int) / 100 / 10).toNat = k / 1000 by omega, show ((k : Int) / 100 % 10).toNat = k / 100 % 10 by omega, show ((k : Int) % 100 / 10).toNat = k / 10 % 10 by omega, show ((k : Int) % 100 % 10).toNat = k % 10 by omega]
    rfl
  rw [hd]
  by_cases a : k ≤ 9
  · rw [dec1 k a, show k / 1000 = 0 by omega, show k / 100 % 10 = 0 by omega, show k / 10 % 10 = 0 by omega, show k % 10 = k by omega]
    exact ⟨by simp, by simp, rfl⟩
  · by_cases b : k ≤ 99
    · rw [decS k (by omega), dec1 (k / 10) (by omega), show k / 1000 = 0 by omega, show k / 100 % 10 = 0 by omega, show k / 10 % 10 = k / 10 by omega]
      exact ⟨by simp, by simp, rfl⟩
    · by_cases c : k ≤ 999
      · rw [decS k (by omega), decS (k / 10) (by omega), dec1 (k / 10 / 10) (by omega), show k / 1000 = 0 by omega, show k / 100 % 10 = k / 10 / 10 by omega]
        exact ⟨by simp, by simp, rfl⟩
      · rw [decS k (by omega), decS (k / 10) (by omega), decS (k / 10 / 10) (by omega), dec1 (k / 10 / 10 / 10) (by omega), show k / 1000 = k / 10 / 10 / 10 by omega, show k / 100 % 10 = k / 10 / 10 % 10 by omega]
        exact ⟨by simp, by simp, rfl⟩
set_option maxRecDepth 100000 in
theorem repeat0 (n : Nat) (w : World) (h : n < 4) :
    Calls Tryz.prog 140 #[.string ⟨#[48]⟩, .int .i64 n] w fun e w' => e = .returned (.string (bs (List.replicate n 48))) ∧ w = w' := by
  have : n = 0 ∨ n = 1 ∨ n = 2 ∨ n = 3 := by omega
  rcases this with rfl | rfl | rfl | rfl
  · go_enter Tryz.func140, Tryz.ntmps140
    go_wp2_with fail
    go_ret
    exact ⟨rfl, rfl⟩
  · go_enter Tryz.func140, Tryz.ntmps140
    go_wp2_with fail
    go_ret
    exact ⟨rfl, rfl⟩
  · go_enter Tryz.func140, Tryz.ntmps140
    go_wp2_with fail
    refine (Tryz.bits_Mul 1 2 (by decide) (by decide) _).mono ?_; rintro e w1 ⟨rfl, rfl⟩
    go_wp2_with fail
    refine (Tryz.strings_HasPrefix _ _ _).mono ?_; rintro e w1 ⟨rfl, rfl⟩
    generalize hx : Lib.hasPrefix _ _ = b
    obtain rfl : b = false := by rw [← hx]; rfl
    clear hx
    go_wp2_with fail
    refine (Tryz.strings_HasPrefix _ _ _).mono ?_; rintro e w1 ⟨rfl, rfl⟩
    generalize hx : Lib.hasPrefix _ _ = b
    obtain rfl : b = false := by rw [← hx]; rfl
    clear hx
    go_wp2_with fail
    refine (Tryz.strings_HasPrefix _ _ _).mono ?_; rintro e w1 ⟨rfl, rfl⟩
    generalize hx : Lib.hasPrefix _ _ = b
    obtain rfl : b = true := by rw [← hx]; rfl
    clear hx
    go_wp2_with fail
    go_ret
    exact ⟨rfl, rfl⟩
  · go_enter Tryz.func140, Tryz.ntmps140
    go_wp2_with fail
    refine (Tryz.bits_Mul 1 3 (by decide) (by decide) _).mono ?_; rintro e w1 ⟨rfl, rfl⟩
    go_wp2_with fail
    refine (Tryz.strings_HasPrefix _ _ _).mono ?_; rintro e w1 ⟨rfl, rfl⟩
    generalize hx : Lib.hasPrefix _ _ = b
    obtain rfl : b = false := by rw [← hx]; rfl
    clear hx
    go_wp2_with fail
    refine (Tryz.strings_HasPrefix _ _ _).mono ?_; rintro e w1 ⟨rfl, rfl⟩
    generalize hx : Lib.hasPrefix _ _ = b
    obtain rfl : b = false := by rw [← hx]; rfl
    clear hx
    go_wp2_with fail
    refine (Tryz.strings_HasPrefix _ _ _).mono ?_; rintro e w1 ⟨rfl, rfl⟩
    generalize hx : Lib.hasPrefix _ _ = b
    obtain rfl : b = true := by rw [← hx]; rfl
    clear hx
    go_wp2_with fail
    go_ret
    exact ⟨rfl, rfl⟩
end Go.Proofs.YtkenianfpfamcaaGreatDoor
namespace Go.Proofs.YtkenianfpfamcaaGreatDoor
open Go Go.RowKit
set_option maxHeartbeats 4000000

structure Box7 (w w1 : World) (y mo d h mi s wd : Int) : Prop where
  cells : CellsAt w1 w.heap.size [.int .i64 y, .int .i64 mo, .int .i64 d, .int .i64 h, .int .i64 mi, .int .i64 s, .int .i64 wd]
  env : EnvS w1
  below : Below w.heap.size w w1
theorem Box7.next {w w1 w2 : World} {y mo d h mi s wd : Int} (B : Box7 w w1 y mo d h mi s wd) (hb : Below w1.heap.size w1 w2) : Box7 w w2 y mo d h mi s wd :=
  ⟨B.cells.next hb, B.env.next hb, B.below.trans (hb.mono B.below.size)⟩

theorem Box7.first {w : World} (h : EnvS w) (y mo d hh mi s wd : Int) (t : TypeId) : Box7 w (w.alloc (.cells #[.int .i64 y, .int .i64 mo, .int .i64 d, .int .i64 hh, .int .i64 mi, .int .i64 s, .int .i64 wd] t)) y mo d hh mi s wd :=
  ⟨CellsAt.first w [.int .i64 y, .int .i64 mo, .int .i64 d, .int .i64 hh, .int .i64 mi, .int .i64 s, .int .i64 wd] t, h.alloc _, (Below.refl _ _).alloc (Nat.le_refl _) _⟩
theorem Box7.drewN {w w1 : World} {y mo d h mi s wd : Int} (B : Box7 w w1 y mo d h mi s wd) (n : Nat) : Box7 w (w1.drewN n) y mo d h mi s wd := B.next (below_of_drewN n)
theorem Box7.get {w w1 : World} {y mo d h mi s wd : Int} (B : Box7 w w1 y mo d h mi s wd) : w1.cell? ⟨w.heap.size, 0, none⟩ = some (.int .i64 y) ∧ w1.cell? ⟨w.heap.size, 1, none⟩ = some (.int .i64 mo) ∧ w1.cell? ⟨w.heap.size, 2, none⟩ = some (.int .i64 d) ∧ w1.cell? ⟨w.heap.size, 3, none⟩ = some (.int .i64 h) ∧ w1.cell? ⟨w.heap.size, 4, none⟩ = some (.int .i64 mi) ∧ w1.cell? ⟨w.heap.size, 5, none⟩ = some (.int .i64 s) ∧ w1.cell? ⟨w.heap.size, 6, none⟩ = some (.int .i64 wd) :=
  ⟨B.cells.cell 0 (by simp), B.cells.cell 1 (by simp), B.cells.cell 2 (by simp), B.cells.cell 3 (by simp), B.cells.cell 4 (by simp), B.cells.cell 5 (by simp), B.cells.cell 6 (by simp)⟩
theorem quiet_left {P : Program} {f : FuncId} {args : Array Value} {w : World} {n : Nat} {v : Value}
    (h : Calls P f args (w.drewN n) fun e w' => e = .returned v ∧ w.drewN n = w') : Calls P f args (w.drewN n) fun e w'' => e = .returned v ∧ ∃ m, w'' = w.drewN m :=
  h.mono fun _ _ ⟨he, hm⟩ => ⟨he, n, hm.symm⟩
theorem two_q {n : Int} {c : UInt8} {x : ByteArray} (hx : Hid (bs (twoL c n) = x)) (h0 : 0 ≤ n) (h1 : n ≤ 99) (w : World) (k : Nat) :
    Calls Tryz.prog 139 #[.int .i64 n, .string ⟨#[c]⟩] (w.drewN k) fun e w' => e = .returned (.string x) ∧ ∃ m, w' = w.drewN m := by
  rw [← hx.out]
  exact quiet_left (two_any n c _ h0 h1)

theorem clk_eq {h mi s : Int} (h0 : 0 ≤ h) (m0 : 0 ≤ mi) (s0 : 0 ≤ s) : bs (Stm.clk h mi s) = bs (twoL 48 h) ++ ⟨#[58]⟩ ++ bs (twoL 48 mi) ++ ⟨#[58]⟩ ++ bs (twoL 48 s) := by
  rw [twoL_48 h h0, twoL_48 mi m0, twoL_48 s s0]
  apply L_inj.1
  simp [L, bs, ByteArray.data_append, Stm.clk]
theorem itoa_b {n : Int} {x : ByteArray} {w w1 : World} {y mo d h mi s wd : Int} (hx : Hid (bs (itoaL n) = x)) (h0 : 0 ≤ n) (h1 : n ≤ 9999) (B : Box7 w w1 y mo d h mi s wd) :
    Calls Tryz.prog 52 #[.int .i64 n] w1 fun e w' => e = .returned (.string x) ∧ Box7 w w' y mo d h mi s wd := by
  rw [← hx.out]
  exact (itoa_y n w1 h0 h1 B.env).mono fun e w' ⟨he, hb⟩ => ⟨he, B.next hb⟩
theorem repeat_b {n : Int} {x : ByteArray} {w w1 : World} {y mo d h mi s wd : Int} (hx : Hid (bs (List.replicate n.toNat 48) = x)) (h0 : 0 ≤ n) (h1 : n < 4) (B : Box7 w w1 y mo d h mi s wd) :
    Calls Tryz.prog 140 #[.string ⟨#[48]⟩, .int .i64 n] w1 fun e w' => e = .returned (.string x) ∧ Box7 w w' y mo d h mi s wd := by
  rw [← hx.out]
  obtain ⟨k, rfl⟩ := Int.eq_ofNat_of_zero_le h0
  exact (repeat0 k w1 (by omega)).mono fun e w' ⟨he, hb⟩ => ⟨he, hb ▸ B⟩

theorem short_of (k : Nat) (hk : k < 7) : bs (Stm.shortN.getD k []) = (bs (Stm.longN.getD k [])).extract 0 3 ∧ (3 : Int) ≤ (bs (Stm.longN.getD k [])).size := by
  have : k = 0 ∨ k = 1 ∨ k = 2 ∨ k = 3 ∨ k = 4 ∨ k = 5 ∨ k = 6 := by omega
  rcases this with rfl | rfl | rfl | rfl | rfl | rfl | rfl <;> exact ⟨rfl, by decide⟩
theorem text0 (k j : Nat) (hk : k < 7) (y d h mi s : Int) (d0 : 0 ≤ d) : bs (writeL 0 y ((j : Int) + 1) d h mi s k) = (bs (Stm.longN.getD k [])).extract 0 3 ++ ⟨#[44, 32]⟩ ++ bs (twoL 48 d) ++ ⟨#[32]⟩ ++ bs (Stm.monN.getD j []) ++ ⟨#[32]⟩ ++ bs (Stm.d4 y) ++ ⟨#[32]⟩ ++ bs (Stm.clk h mi s) ++ ⟨#[32, 71, 77, 84]⟩ := by
  rw [← (short_of k hk).1, twoL_48 d d0]
  unfold writeL
  rw [show ((j : Int) + 1 - 1).toNat = j by omega, show (k : Int).toNat = k by omega]
  apply L_inj.1
  simp [L, bs, ByteArray.data_append, Stm.txt]
theorem text1 (k j : Nat) (y d h mi s : Int) (d0 : 0 ≤ d) : bs (writeL 1 y ((j : Int) + 1) d h mi s k) = bs (Stm.longN.getD k []) ++ ⟨#[44, 32]⟩ ++ bs (twoL 48 d) ++ ⟨#[45]⟩ ++ bs (Stm.monN.getD j []) ++ ⟨#[45]⟩ ++ (bs (Stm.d4 y)).extract 2 4 ++ ⟨#[32]⟩ ++ bs (Stm.clk h mi s) ++ ⟨#[32, 71, 77, 84]⟩ := by
  rw [show (bs (Stm.d4 y)).extract 2 4 = bs (Stm.d2 (y % 100)) from rfl, twoL_48 d d0]
  unfold writeL
  rw [show ((j : Int) + 1 - 1).toNat = j by omega, show (k : Int).toNat = k by omega]
  apply L_inj.1
  simp [L, bs, ByteArray.data_append, Stm.txt]
theorem text2 (k j : Nat) (hk : k < 7) (y d h mi s : Int) : bs (writeL 2 y ((j : Int) + 1) d h mi s k) = (bs (Stm.longN.getD k [])).extract 0 3 ++ ⟨#[32]⟩ ++ bs (Stm.monN.getD j []) ++ ⟨#[32]⟩ ++ bs (twoL 32 d) ++ ⟨#[32]⟩ ++ bs (Stm.clk h mi s) ++ ⟨#[32]⟩ ++ bs (Stm.d4 y) := by
  rw [← (short_of k hk).1]
  unfold writeL twoL
  rw [show ((j : Int) + 1 - 1).toNat = j by omega, show (k : Int).toNat = k by omega]
  apply L_inj.1
  by_cases hd : d < 10 <;> simp [L, bs, ByteArray.data_append, Stm.txt, hd]

set_option maxRecDepth 100000 in
theorem write_any (m form : Int) (w : World) (hE : EnvS w) :
    Calls Tryz.prog 94 #[.int .i64 m, .int .i64 form] w fun e w' => e = .returned (writeV m form) ∧ Below w.heap.size w w' := by
  obtain ⟨V, hV⟩ := name_it (writeV m form)
  rw [hV.out]
  have HEnv := Lib.hid hE; clear hE
  by_cases hm : isMom m = true
  · obtain ⟨y, mo, d, h, mi, s, wd, HD, HW, HE, ⟨y0, y1⟩, ⟨mo0, mo1⟩, ⟨d0, d1⟩, ⟨h0, h1⟩, ⟨mi0, mi1⟩, ⟨s0, s1⟩, ⟨wd0, wd1⟩⟩ := date_of hm
    obtain ⟨k, rfl⟩ := Int.eq_ofNat_of_zero_le wd0
    obtain ⟨j, hj⟩ : ∃ j : Nat, mo = (j : Int) + 1 := ⟨(mo - 1).toNat, by omega⟩
    subst hj
    have hk7 : k < 7 := by omega
    have hj12 : j < 12 := by omega
    go_enter Tryz.func94, Tryz.ntmps94
    go_wp2_with fail
    refine (split_any _ _).mono ?_; rintro e w1 ⟨rfl, hb1⟩
    rw [HD.out, HE.out]
    unfold dateV
    have HE1 := Lib.hid (HEnv.out.next hb1)
    have hwk := HE1.out.week k hk7
    have hmo := HE1.out.mon j hj12
    obtain ⟨nm, hnm⟩ := name_it (Stm.longN.getD k [])
    obtain ⟨mn, hmn⟩ := name_it (Stm.monN.getD j [])
    rw [hnm.out] at hwk
    rw [hmn.out] at hmo
    have hn : 0 < w1.heap.size := Nat.lt_of_lt_of_le (by decide) HE1.out.n
    have hn1 : 1 < w1.heap.size := Nat.lt_of_lt_of_le (by decide) HE1.out.n
    go_wp2_with fail
    go_quiet (fail)
    have B := Lib.hid ((Box7.first HE1.out y ((j : Int) + 1) d h mi s k 171).drewN nq)
    generalize World.drewN _ nq = w2 at B ⊢
    clear hwk hmo
    obtain ⟨c0, c1, c2, c3, c4, c5, c6⟩ := B.out.get
    obtain ⟨xh, hxh⟩ := name_it (bs (twoL 48 h))
    obtain ⟨xm, hxm⟩ := name_it (bs (twoL 48 mi))
    obtain ⟨xs, hxs⟩ := name_it (bs (twoL 48 s))
    have zh : xh.size = 2 := by rw [← hxh.out, size_bs, twoL_len]
    have zm : xm.size = 2 := by rw [← hxm.out, size_bs, twoL_len]
    have zs : xs.size = 2 := by rw [← hxs.out, size_bs, twoL_len]
    go_wp2_with fail
    go_quiet ((go_at_call 139; first | (with_reducible exact two_q hxh h0 (by omega) _ _) | (with_reducible exact two_q hxm mi0 (by omega) _ _) | (with_reducible exact two_q hxs s0 (by omega) _ _)))
    have Hck := Lib.hid (clk_eq h0 mi0 s0)
    rw [hxh.out, hxm.out, hxs.out] at Hck
    obtain ⟨ck, hck⟩ := name_it (xh ++ ⟨#[58]⟩ ++ xm ++ ⟨#[58]⟩ ++ xs)
    rw [hck.out] at Hck ⊢
    have zc : ck.size = 8 := by rw [← hck.out]; simp only [ByteArray.size_append, zh, zm, zs]; rfl
    have B2 := Lib.hid (B.out.drewN nq)
    generalize World.drewN _ nq = w3 at B2 ⊢
    clear c0 c1 c2 c3 c4 c5 c6 B zh zm zs hxh hxm hxs hck
    obtain ⟨c0, c1, c2, c3, c4, c5, c6⟩ := B2.out.get
    obtain ⟨q1, q2, q3⟩ := itoa_four y y0 y1
    obtain ⟨x, hx⟩ := name_it (bs (itoaL y))
    have zx : (x.size : Int) ≤ 4 := by rw [← hx.out, size_bs]; omega
    have zx1 : 1 ≤ (x.size : Int) := by rw [← hx.out, size_bs]; omega
    obtain ⟨rp, hrp⟩ := name_it (bs (List.replicate (4 - (x.size : Int)).toNat 48))
    have zr : rp.size ≤ 4 := by rw [← hrp.out, size_bs, List.length_replicate]; omega
    have Hyr : Hid (bs (Stm.d4 y) = rp ++ x) := by
      rw [← q3, ← hrp.out, ← hx.out, size_bs, show (4 - ((itoaL y).length : Int)).toNat = 4 - (itoaL y).length by omega]
      apply L_inj.1; simp [L, bs, ByteArray.data_append]
    clear q1 q2 q3
    have hwr : IntKind.i64.wrap (4 - (x.size : Int)) = 4 - (x.size : Int) := IntWalk.i64_in _ (by omega)
    have hcat : ¬ 9223372036854775807 < rp.size + x.size := by omega
    have B3 := Lib.hid (B2.out.next (Below.refl _ _).drew)
    go_wp2_with fail
    go_region_held3 (fun w' => w'.cell? ⟨w1.heap.size, 0, none⟩ = some (.int .i64 y) ∧ Hid (Box7 w1 w' y ((j : Int) + 1) d h mi s k))
      (first | exact ⟨B3.out.get.1, B3⟩ | exact ⟨B'.out.get.1, B'⟩ | go_keep)
      (first | (go_at_call 52; refine (itoa_b hx (by omega) y1 (by first | exact B3.out | exact Hid.out (by assumption))).mono ?_; rintro e w' ⟨rfl, B'⟩; have B' := Lib.hid B') | (go_at_call 140; (try rw [hwr]); refine (repeat_b hrp (by omega) (by omega) (by first | exact B3.out | exact Hid.out (by assumption))).mono ?_; rintro e w' ⟨rfl, B'⟩; have B' := Lib.hid B'))
    obtain ⟨yr, hyr⟩ := name_it (rp ++ x)
    have zy : yr.size = 4 := by
      have := congrArg ByteArray.size Hyr.out
      rw [hyr.out] at this
      rw [← this]; rfl
    rw [hyr.out] at Hyr ⊢
    have B4 := Lib.hid (B'.out.next (Below.refl _ _).drew)
    have hbw := hb1.trans ((B'.out.below).mono hb1.size)
    clear hx zx zx1 hrp zr hwr hcat hyr B3 c0 c1 c2 c3 c4 c5 c6 B2
    obtain ⟨c0, c1, c2, c3, c4, c5, c6⟩ := B'.out.get
    have Hs := short_of k hk7
    rw [hnm.out] at Hs
    have zn := Hs.2
    have zn9 : (bs nm).size ≤ 9 := by rw [← hnm.out, size_bs]; exact long_len k
    have zm9 : (bs mn).size ≤ 9 := by rw [← hmn.out, size_bs]; exact mon_len j
    clear Hs
    obtain ⟨n3, hn3⟩ := name_it ((bs nm).extract 0 3)
    have zn3 : n3.size ≤ 9 := by rw [← hn3.out, ByteArray.size_extract]; omega
    have T0 := Lib.hid (text0 k j hk7 y d h mi s (by omega))
    have T1 := Lib.hid (text1 k j y d h mi s (by omega))
    have T2 := Lib.hid (text2 k j hk7 y d h mi s)
    rw [hnm.out, hmn.out, Hyr.out, Hck.out, hn3.out] at T0 T2
    rw [hnm.out, hmn.out, Hyr.out, Hck.out] at T1
    obtain ⟨d48, hd48⟩ := name_it (bs (twoL 48 d))
    obtain ⟨d32, hd32⟩ := name_it (bs (twoL 32 d))
    have z48 : d48.size = 2 := by rw [← hd48.out, size_bs, twoL_len]
    have z32 : d32.size = 2 := by rw [← hd32.out, size_bs, twoL_len]
    rw [hd48.out] at T0 T1
    rw [hd32.out] at T2
    have hn3' : (bs nm).extract 0 3 = n3 := hn3.out
    by_cases f0 : form = 0
    · subst f0
      have hres : Hid (V = .tuple #[.string (n3 ++ ⟨#[44, 32]⟩ ++ d48 ++ ⟨#[32]⟩ ++ bs mn ++ ⟨#[32]⟩ ++ yr ++ ⟨#[32]⟩ ++ ck ++ ⟨#[32, 71, 77, 84]⟩), .int .i64 0]) := by
        rw [← hV.out, ← T0.out, ← HW.out]; unfold Hid writeV; rw [hm]; rfl
      clear hV T0 T1 T2
      go_wp2_with fail
      go_quiet ((go_at_call 139; first | (with_reducible exact two_q hd48 (by omega) (by omega) _ _)))
      go_wp2_with fail
      go_ret2
      exact ⟨by rw [hres.out]; rfl, below_drewN hbw _⟩
    · by_cases f1 : form = 1
      · subst f1
        have hres : Hid (V = .tuple #[.string (bs nm ++ ⟨#[44, 32]⟩ ++ d48 ++ ⟨#[45]⟩ ++ bs mn ++ ⟨#[45]⟩ ++ yr.extract 2 4 ++ ⟨#[32]⟩ ++ ck ++ ⟨#[32, 71, 77, 84]⟩), .int .i64 0]) := by
          rw [← hV.out, ← T1.out, ← HW.out]; unfold Hid writeV; rw [hm]; rfl
        clear hV T0 T1 T2
        go_wp2_with fail
        go_quiet ((go_at_call 139; first | (with_reducible exact two_q hd48 (by omega) (by omega) _ _)))
        go_wp2_with fail
        go_ret2
        exact ⟨by rw [hres.out]; rfl, below_drewN hbw _⟩
      · by_cases f2 : form = 2
        · subst f2
          have hres : Hid (V = .tuple #[.string (n3 ++ ⟨#[32]⟩ ++ bs mn ++ ⟨#[32]⟩ ++ d32 ++ ⟨#[32]⟩ ++ ck ++ ⟨#[32]⟩ ++ yr), .int .i64 0]) := by
            rw [← hV.out, ← T2.out, ← HW.out]; unfold Hid writeV; rw [hm]; rfl
          clear hV T0 T1 T2
          go_wp2_with fail
          go_quiet ((go_at_call 139; first | (with_reducible exact two_q hd32 (by omega) (by omega) _ _)))
          go_wp2_with fail
          go_ret2
          exact ⟨by rw [hres.out]; rfl, below_drewN hbw _⟩
        · have hok : okForm form = false := by unfold okForm; rw [decide_eq_false_iff_not]; omega
          have hres : Hid (V = .tuple #[.string ⟨#[]⟩, .int .i64 44]) := by
            rw [← hV.out]; unfold Hid writeV; rw [hm, hok]; rfl
          clear hV T0 T1 T2
          have e0 : (form == 0) = false := by simpa using f0
          have e1 : (form == 1) = false := by simpa using f1
          have e2 : (form == 2) = false := by simpa using f2
          go_wp2_with fail
          go_ret2
          exact ⟨by rw [hres.out]; rfl, hbw⟩
  · have hm : isMom m = false := by simpa using hm
    have hres : Hid (V = .tuple #[.string ⟨#[]⟩, .int .i64 40]) := by
      rw [← hV.out]; unfold Hid writeV; rw [hm]; rfl
    have HE : Hid (splitE m = 40 ∧ splitD m = dateV 0 0 0 0 0 0 0) := by unfold Hid splitE splitD; rw [hm]; exact ⟨rfl, rfl⟩
    go_enter Tryz.func94, Tryz.ntmps94
    go_wp2_with fail
    refine (split_any _ _).mono ?_; rintro e w1 ⟨rfl, hb1⟩
    rw [HE.out.1, HE.out.2]
    unfold dateV
    go_wp2_with fail
    go_ret2
    exact ⟨by rw [hres.out]; rfl, hb1.alloc hb1.size _⟩
end Go.Proofs.YtkenianfpfamcaaGreatDoor
namespace Go.Proofs.YtkenianfpfamcaaGreatDoor
open Go Go.RowKit
set_option maxHeartbeats 2000000

theorem print_any (m : Int) (w : World) (hE : EnvS w) :
    Calls Tryz.prog 48 #[.int .i64 m] w fun e w' => e = .returned (writeV m 0) ∧ Below w.heap.size w w' := by
  have HE := Lib.hid hE
  obtain ⟨V, hV⟩ := name_it (bs (if isMom m then if okForm 0 then writeOf m (0 : Int).toNat else [] else []))
  obtain ⟨E, hEr⟩ := name_it (if isMom m then if okForm 0 then (0 : Int) else 44 else 40)
  unfold writeV
  rw [hV.out, hEr.out]
  go_enter Tryz.func48, Tryz.ntmps48
  go_wp2_with fail
  refine (write_any m 0 _ HE.out).mono ?_; rintro e w1 ⟨rfl, hb⟩
  unfold writeV
  rw [hV.out, hEr.out]
  go_wp2_with fail
  go_ret2
  exact ⟨rfl, hb⟩

theorem formFrom_step (t : List UInt8) (k : Nat) (h : k < 7) : Stm.formFrom t (Stm.longN.drop k) = if (Stm.shortN.getD k [] ++ [44]).isPrefixOf t then 0 else if (Stm.longN.getD k [] ++ [44]).isPrefixOf t then 1 else Stm.formFrom t (Stm.longN.drop (k + 1)) := by
  have : k = 0 ∨ k = 1 ∨ k = 2 ∨ k = 3 ∨ k = 4 ∨ k = 5 ∨ k = 6 := by omega
  rcases this with rfl | rfl | rfl | rfl | rfl | rfl | rfl <;> rfl
end Go.Proofs.YtkenianfpfamcaaGreatDoor
