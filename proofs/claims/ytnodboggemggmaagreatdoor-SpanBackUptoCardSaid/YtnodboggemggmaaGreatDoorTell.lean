/- Contracts of span's and the document's Tell and TellNone. -/
import Derived.Test.YtnodboggemggmaaGreatDoorDigits
import Derived.Test.YtnodboggemggmaaGreatDoorSpanG
import Derived.Deep.RegionHeld3
namespace Go.Proofs.YtnodboggemggmaaGreatDoor
open Go Go.RowKit
set_option maxHeartbeats 2000000

/-- a world in which the call's own box holds a span -/
structure Box2 (w w1 : World) (a b : Int) : Prop where
  c0 : w1.cell? ⟨w.heap.size, 0, none⟩ = some (.int .i64 a)
  c1 : w1.cell? ⟨w.heap.size, 1, none⟩ = some (.int .i64 b)
  env : EnvP w1
  below : Below w.heap.size w w1
  lt : w.heap.size < w1.heap.size
theorem Box2.first {w : World} (h : EnvP w) (a b : Int) (t : TypeId) : Box2 w (w.alloc (.cells #[.int .i64 a, .int .i64 b] t)) a b where
  c0 := World.cell?_alloc_mark w #[.int .i64 a, .int .i64 b] t (0, 0) 0
  c1 := World.cell?_alloc_mark w #[.int .i64 a, .int .i64 b] t (0, 0) 1
  env := h.alloc _
  below := (Below.refl _ _).alloc (Nat.le_refl _) _
  lt := by show w.heap.size < (w.heap.push _).size; rw [Array.size_push]; omega
theorem Box2.next {w w1 w2 : World} {a b : Int} (h : Box2 w w1 a b) (hb : Below w1.heap.size w1 w2) : Box2 w w2 a b where
  c0 := by rw [hb.cell (p := ⟨w.heap.size, 0, none⟩) h.lt]; exact h.c0
  c1 := by rw [hb.cell (p := ⟨w.heap.size, 1, none⟩) h.lt]; exact h.c1
  env := h.env.next hb
  below := h.below.trans (hb.mono h.below.size)
  lt := Nat.lt_of_lt_of_le h.lt hb.size
theorem digits_box {n : Int} {x : List UInt8} {w w1 : World} {a b : Int} (hx : Lib.itoa n = x) (h0 : -9223372036854775808 ≤ n) (h1 : n ≤ 9223372036854775807) (h : Box2 w w1 a b) :
    Calls Tryz.prog 22 #[.int .i64 n] w1 fun e w' => e = .returned (.string (bs x)) ∧ Box2 w w' a b := by
  subst hx
  refine (digits_any n w1 h.env h0 h1).mono ?_
  rintro e w2 ⟨rfl, hb⟩
  exact ⟨rfl, h.next hb⟩
def bytesL (a b : Int) : List UInt8 := Lib.itoa a ++ [45] ++ Lib.itoa (b - 1)
def tellL (a b size : Int) : List UInt8 := [98, 121, 116, 101, 115, 32] ++ bytesL a b ++ [47] ++ Lib.itoa size
def noneL (size : Int) : List UInt8 := [98, 121, 116, 101, 115, 32, 42, 47] ++ Lib.itoa size
def tellV (a b size : Int) : Value := .tuple #[.string (if isO a b size then bs (tellL a b size) else ⟨#[]⟩), .int .i64 (if isO a b size then 0 else 91)]
def noneV (size : Int) : Value := .tuple #[.string (if size < 0 then ⟨#[]⟩ else bs (noneL size)), .int .i64 (if size < 0 then 1 else 0)]
theorem bs_append (x y : List UInt8) : bs x ++ bs y = bs (x ++ y) := by
  apply L_inj.1
  simp [L, bs, ByteArray.data_append]

set_option maxRecDepth 100000 in
theorem bytesOf_any (a b : Int) (h0 : 0 ≤ a) (h1 : a < b) (h2 : b ≤ 9223372036854775807) (w : World) (hE : EnvP w) :
    Calls Tryz.prog 48 #[.agg #[.int .i64 a, .int .i64 b]] w fun e w' => e = .returned (.string (bs (bytesL a b))) ∧ Below w.heap.size w w' := by
  have hl1 := Lib.itoa_length_le a (by omega) (by omega)
  have hl2 := Lib.itoa_length_le (b - 1) (by omega) (by omega)
  unfold bytesL
  obtain ⟨x, hx⟩ := name_it (Lib.itoa a)
  obtain ⟨y, hy⟩ := name_it (Lib.itoa (b - 1))
  rw [hx.out] at hl1 ⊢
  rw [hy.out] at hl2 ⊢
  have hs1 : (bs x).size ≤ 21 := by rw [size_bs]; exact hl1
  have hs2 : (bs y).size ≤ 21 := by rw [size_bs]; exact hl2
  have hB : Hid (Box2 w (w.alloc (.cells #[.int .i64 a, .int .i64 b] 38)) a b) := Box2.first hE a b _
  have hBd := Lib.hid (hB.out.next (Below.refl _ _).drew)
  have hc0 := hB.out.c0
  have hc1 := hB.out.c1
  have hfin : Hid (bs x ++ ⟨#[45]⟩ ++ bs y = bs (x ++ [45] ++ y)) := by unfold Hid; rw [← bs_append, ← bs_append]; rfl
  go_enter Tryz.func48, Tryz.ntmps48
  go_wp2_with fail
  have hwr : IntKind.i64.wrap (b - 1) = b - 1 := IntWalk.i64_in _ (by omega)
  have hcat1 : ¬ 9223372036854775807 < (bs x).size + 1 := by omega
  have hcat2 : ¬ 9223372036854775807 < (bs x).size + 1 + (bs y).size := by omega
  go_region_held3 (fun w' => w'.cell? ⟨w.heap.size, 0, none⟩ = some (.int .i64 a) ∧ w'.cell? ⟨w.heap.size, 1, none⟩ = some (.int .i64 b) ∧ Hid (Box2 w w' a b))
    (first | exact ⟨hBd.out.c0, hBd.out.c1, hBd⟩ | exact ⟨hB'.out.c0, hB'.out.c1, hB'⟩ | go_keep)
    (first | (go_at_call 22; (try rw [hwr]); refine (digits_box (by first | exact hx.out | exact hy.out) (by omega) (by omega) (by first | exact hBd.out | exact Hid.out (by assumption))).mono ?_; rintro e w' ⟨rfl, hB'⟩; have hB' := Lib.hid hB'))
  all_goals (try (exfalso; omega))
  all_goals (go_wp2_with fail)
  all_goals go_ret
  all_goals exact ⟨by rw [← hfin.out]; rfl, hB'.out.below⟩

set_option maxRecDepth 100000 in
theorem tell_any (a b size : Int) (h2 : b ≤ 9223372036854775807) (h3 : size ≤ 9223372036854775807) (w : World) (hE : EnvP w) :
    Calls Tryz.prog 27 #[.agg #[.int .i64 a, .int .i64 b], .int .i64 size] w fun e w' => e = .returned (tellV a b size) ∧ Below w.heap.size w w' := by
  obtain ⟨R, hR⟩ := name_it (tellV a b size)
  obtain ⟨I, hI⟩ := name_it (isO a b size)
  have HB := Lib.hid (Box2.first hE a b 38)
  rw [hR.out]
  cases I
  · have hf : Hid (R = .tuple #[.string ⟨#[]⟩, .int .i64 91]) := by rw [← hR.out]; unfold Hid tellV; rw [hI.out]; rfl
    go_enter Tryz.func27, Tryz.ntmps27
    go_wp2_with fail
    refine (isSpan_any a b size _).mono ?_; rintro e w1 ⟨rfl, hb1⟩
    rw [hI.out]
    have HB1 := Lib.hid (HB.out.next hb1)
    go_wp2_with fail
    go_ret2
    exact ⟨by rw [hf.out]; rfl, HB1.out.below⟩
  · have h := hI.out
    unfold isO at h
    rw [decide_eq_true_eq] at h
    obtain ⟨i1, i2, i3⟩ := h
    have hl1 := Lib.itoa_length_le a (by omega) (by omega)
    have hl2 := Lib.itoa_length_le (b - 1) (by omega) (by omega)
    have hl3 := Lib.itoa_length_le size (by omega) (by omega)
    have hlb : (bytesL a b).length ≤ 43 := by unfold bytesL; simp only [List.length_append, List.length_cons, List.length_nil]; omega
    clear hl1 hl2
    obtain ⟨x, hx⟩ := name_it (bytesL a b)
    obtain ⟨y, hy⟩ := name_it (Lib.itoa size)
    rw [hx.out] at hlb
    rw [hy.out] at hl3
    have hs1 : (bs x).size ≤ 43 := by rw [size_bs]; exact hlb
    have hs2 : (bs y).size ≤ 21 := by rw [size_bs]; exact hl3
    have hf : Hid (R = .tuple #[.string (⟨#[98, 121, 116, 101, 115, 32]⟩ ++ bs x ++ ⟨#[47]⟩ ++ bs y), .int .i64 0]) := by
      rw [← hR.out]; unfold Hid tellV tellL; rw [hI.out, hx.out, hy.out, ← bs_append, ← bs_append, ← bs_append]; rfl
    go_enter Tryz.func27, Tryz.ntmps27
    go_wp2_with fail
    refine (isSpan_any a b size _).mono ?_; rintro e w1 ⟨rfl, hb1⟩
    rw [hI.out]
    have HB1 := Lib.hid (HB.out.next hb1)
    have hc0 := HB1.out.c0
    have hc1 := HB1.out.c1
    go_wp2_with fail
    refine (bytesOf_any a b i1 i2 h2 _ HB1.out.env).mono ?_; rintro e w2 ⟨rfl, hb2⟩
    rw [hx.out]
    have HB2 := Lib.hid (HB1.out.next hb2)
    go_wp2_with fail
    all_goals (try (exfalso; omega))
    refine (digits_any _ _ HB2.out.env (by omega) h3).mono ?_; rintro e w3 ⟨rfl, hb3⟩
    rw [hy.out]
    have HB3 := Lib.hid (HB2.out.next hb3)
    go_wp2_with fail
    all_goals (try (exfalso; omega))
    go_ret2
    exact ⟨by rw [hf.out]; rfl, HB3.out.below⟩

end Go.Proofs.YtnodboggemggmaaGreatDoor
