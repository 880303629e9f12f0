/- SpanCuts, SpanTells: the walks of the laws. -/
import Derived.Test.YtnodboggemggmaaDoorTell
import Derived.Test.YtnodboggemggmaaDoorSpanH
namespace Go.Proofs.YtnodboggemggmaaDoor
open Go Go.RowKit
set_option maxHeartbeats 2000000

/-- a world in which the call's two boxes hold a span -/
structure Two (w w1 : World) (a b : Int) : Prop where
  c0 : w1.cell? ⟨w.heap.size, 0, none⟩ = some (.int .i64 a)
  c1 : w1.cell? ⟨w.heap.size, 1, none⟩ = some (.int .i64 b)
  d0 : w1.cell? ⟨w.heap.size + 1, 0, none⟩ = some (.int .i64 a)
  d1 : w1.cell? ⟨w.heap.size + 1, 1, none⟩ = some (.int .i64 b)
  env : EnvP w1
  below : Below w.heap.size w w1
  lt : w.heap.size + 1 < w1.heap.size
theorem Two.first {w : World} (h : EnvP w) (a b : Int) (t u : TypeId) : Two w ((w.alloc (.cells #[.int .i64 a, .int .i64 b] t)).alloc (.cells #[.int .i64 a, .int .i64 b] u)) a b := by
  have h1 := Box2.first h a b t
  have h2 := Box2.first h1.env a b u
  have h3 := h1.next ((Below.refl (w.alloc (.cells #[.int .i64 a, .int .i64 b] t)).heap.size (w.alloc (.cells #[.int .i64 a, .int .i64 b] t))).alloc (Nat.le_refl _) (.cells #[.int .i64 a, .int .i64 b] u))
  have hz : (w.alloc (.cells #[.int .i64 a, .int .i64 b] t)).heap.size = w.heap.size + 1 := Array.size_push ..
  have c0 := h2.c0
  have c1 := h2.c1
  have l := h2.lt
  rw [hz] at c0 c1 l
  exact ⟨h3.c0, h3.c1, c0, c1, h2.env, h3.below, l⟩
theorem Two.next {w w1 w2 : World} {a b : Int} (h : Two w w1 a b) (hb : Below w1.heap.size w1 w2) : Two w w2 a b where
  c0 := by rw [hb.cell (p := ⟨w.heap.size, 0, none⟩) (Nat.lt_trans (Nat.lt_succ_self _) h.lt)]; exact h.c0
  c1 := by rw [hb.cell (p := ⟨w.heap.size, 1, none⟩) (Nat.lt_trans (Nat.lt_succ_self _) h.lt)]; exact h.c1
  d0 := by rw [hb.cell (p := ⟨w.heap.size + 1, 0, none⟩) h.lt]; exact h.d0
  d1 := by rw [hb.cell (p := ⟨w.heap.size + 1, 1, none⟩) h.lt]; exact h.d1
  env := h.env.next hb
  below := h.below.trans (hb.mono h.below.size)
  lt := Nat.lt_of_lt_of_le h.lt hb.size

set_option maxRecDepth 100000 in
theorem lawCuts_any (s : ByteArray) (a b : Int) (w : World) (hE : EnvP w) (hs : s.size ≤ 1048576) (h2 : b ≤ 9223372036854775807) :
    Calls Tryd.prog 4 #[.string s, .agg #[.int .i64 a, .int .i64 b]] w fun e w' => e = .returned (.bool true) ∧ Below w.heap.size w w' := by
  have hsz : (s.size : Int) ≤ 9223372036854775807 := by omega
  obtain ⟨c, hc⟩ := name_it (if isO a b s.size then s.extract a.toNat b.toNat else (⟨#[]⟩ : ByteArray))
  obtain ⟨d, hd⟩ := name_it (if isO a b s.size then (0 : Int) else 91)
  obtain ⟨t, ht⟩ := name_it (if isO a b s.size then bs (tellL a b s.size) else (⟨#[]⟩ : ByteArray))
  have htv : Hid (tellV a b s.size = .tuple #[.string t, .int .i64 d]) := by unfold Hid tellV; rw [ht.out, hd.out]
  have H0 := Lib.hid (Two.first hE a b 33 34)
  go_enter Tryd.func4, Tryd.ntmps4
  go_wp2_with fail
  refine (cutS_any s a b _ (by omega)).mono ?_; rintro e w1 ⟨rfl, hb1⟩
  rw [hc.out, hd.out]
  have H1 := Lib.hid (H0.out.next hb1); have d0 := H1.out.d0; have d1 := H1.out.d1
  go_wp2_with fail
  refine (rcutS_any s a b _ (by omega)).mono ?_; rintro e w2 ⟨rfl, hb2⟩
  rw [hc.out, hd.out]
  have H2 := Lib.hid (H1.out.next hb2); have c0 := H2.out.c0; have c1 := H2.out.c1
  go_wp2_with fail
  refine (tell_any a b s.size h2 hsz _ H2.out.env).mono ?_; rintro e w3 ⟨rfl, hb3⟩
  rw [htv.out]
  have H3 := Lib.hid (H2.out.next hb3); have d0 := H3.out.d0; have d1 := H3.out.d1
  go_wp2_with fail
  refine (rtell_any a b s.size h2 hsz _ H3.out.env).mono ?_; rintro e w4 ⟨rfl, hb4⟩
  rw [htv.out]
  have H4 := Lib.hid (H3.out.next hb4)
  go_wp2_with fail
  refine (awake_any _ H4.out.env.env).mono ?_; rintro e w5 ⟨rfl, hb5⟩
  have H5 := Lib.hid (H4.out.next hb5)
  go_wp2_with fail
  all_goals (try (exfalso; omega))
  go_ret
  exact ⟨rfl, H5.out.below⟩
end Go.Proofs.YtnodboggemggmaaDoor
