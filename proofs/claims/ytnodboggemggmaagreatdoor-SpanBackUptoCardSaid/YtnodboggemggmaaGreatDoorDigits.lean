/- Contract of octet's Digits: a number's decimal numeral. -/
import Derived.Test.YtnodboggemggmaaGreatDoorShelf
import Derived.Test.YtnodboggemggmaaGreatDoorSpanA
import Derived.Test.YtnodboggemggmaaGreatDoorDigitsR
namespace Go.Proofs.YtnodboggemggmaaGreatDoor
open Go Go.RowKit

theorem gPow : Tryz.prog.globalNamed "internal/strconv.uint64pow10" = some 1 := by kernel_rfl
/-- what the library's variables hold, strconv's powers of ten with them -/
structure EnvP (w : World) : Prop where
  env : Env w
  pow : Lib.TabIs Tryz.prog w "internal/strconv.uint64pow10" .u64 Lib.pow10Tab
theorem EnvP.next {w w' : World} (h : EnvP w) (hb : Below w.heap.size w w') : EnvP w' :=
  ⟨h.env.next hb, var?_below hb gPow (Nat.lt_of_lt_of_le (by decide) h.env.n) h.pow⟩
theorem EnvP.alloc {w : World} (h : EnvP w) (o : Obj) : EnvP (w.alloc o) := h.next ((Below.refl _ _).alloc (Nat.le_refl _) _)

theorem grow_below (w : World) (k : Nat) (os : Array Obj) : Below w.heap.size w (Sort.grow (w.drewN k) os) :=
  ⟨rfl, rfl, rfl, by show w.heap.size ≤ (w.heap ++ os).size; rw [Array.size_append]; omega, fun j hj => by
    show (w.heap ++ os)[j]? = _
    rw [Array.getElem?_append_left hj]⟩

theorem digits_any (n : Int) (w : World) (hE : EnvP w) (h0 : -9223372036854775808 ≤ n) (h1 : n ≤ 9223372036854775807) :
    Calls Tryz.prog 22 #[.int .i64 n] w fun e w' => e = .returned (.string (bs (Lib.itoa n))) ∧ Below w.heap.size w w' := by
  have HE := Lib.hid hE
  go_enter Tryz.func22, Tryz.ntmps22
  go_wp2_with fail
  refine (Tryz.strconv_Itoa n h0 h1 _ HE.out.pow).mono ?_
  rintro e w1 ⟨rfl, k, os, rfl⟩
  have hb := grow_below w k os
  obtain ⟨w2, hw2⟩ := name_it (Sort.grow (w.drewN k) os)
  rw [hw2.out] at hb ⊢
  go_wp2_with fail
  go_ret
  exact ⟨rfl, hb⟩
end Go.Proofs.YtnodboggemggmaaGreatDoor
