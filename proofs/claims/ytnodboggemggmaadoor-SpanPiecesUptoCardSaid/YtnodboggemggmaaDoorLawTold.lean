/- SpanTold, SpanTells: the walks of the laws. -/
import Derived.Test.YtnodboggemggmaaDoorToldA
import Derived.Test.YtnodboggemggmaaDoorToldB
import Derived.Test.YtnodboggemggmaaDoorTellsP
import Derived.Test.YtnodboggemggmaaDoorSpanH
import Derived.Test.YtnodboggemggmaaDoorPrintA
namespace Go.Proofs.YtnodboggemggmaaDoor
open Go Go.RowKit
set_option maxHeartbeats 2000000

theorem box_at {w w2 : World} {x y : Value} {T : TypeId} (h : Below (w.alloc (.cells #[x, y] T)).heap.size (w.alloc (.cells #[x, y] T)) w2) :
    w2.cell? ⟨w.heap.size, 0, none⟩ = some x ∧ w2.cell? ⟨w.heap.size, 1, none⟩ = some y ∧ w.heap.size < w2.heap.size ∧ Below w.heap.size w w2 := by
  have hlt : w.heap.size < (w.alloc (.cells #[x, y] T)).heap.size := by show w.heap.size < (w.heap.push _).size; rw [Array.size_push]; omega
  refine ⟨?_, ?_, Nat.lt_of_lt_of_le hlt h.size, ((Below.refl _ _).alloc (Nat.le_refl _) _).trans (h.mono (Nat.le_of_lt hlt))⟩
  · rw [h.cell (p := ⟨w.heap.size, 0, none⟩) hlt]
    exact World.cell?_alloc_mark w #[x, y] T (0, 0) 0
  · rw [h.cell (p := ⟨w.heap.size, 1, none⟩) hlt]
    exact World.cell?_alloc_mark w #[x, y] T (0, 0) 1

set_option maxRecDepth 100000 in
theorem lawTold_any (s : ByteArray) (w : World) (hE : EnvP w) (hs : s.size ≤ 1048576) :
    Calls Tryd.prog 6 #[.string s] w fun e w' => e = .returned (.bool true) ∧ Below w.heap.size w w' := by
  have HE := Lib.hid hE; clear hE
  have t1 := fun wx (hx : EnvP wx) => told_any s wx hx (by omega)
  have t2 := fun wx => rtold_any s wx (by omega)
  obtain ⟨m, hm⟩ := name_it (toldM (L s))
  rw [hm.out] at t1 t2
  obtain ⟨a, b, n, x⟩ := m
  simp only [toldV] at t1 t2
  have T1 := Lib.hid t1
  have T2 := Lib.hid t2
  clear t1 t2 hm
  go_enter Tryd.func6, Tryd.ntmps6
  go_wp2_with fail
  refine (T1.out _ HE.out).mono ?_; rintro e w1 ⟨rfl, hb1⟩
  have H1 := Lib.hid ((HE.out.next hb1).alloc (.cells #[.int .i64 a, .int .i64 b] 33))
  go_wp2_with fail
  refine (T2.out _).mono ?_; rintro e w2 ⟨rfl, hb2⟩
  obtain ⟨c1, c2, c3, c4⟩ := box_at hb2
  have H2 := Lib.hid ((H1.out.next hb2).alloc (.cells #[.int .i64 a, .int .i64 b] 34))
  have d2 := hb1.trans (c4.mono hb1.size)
  clear hb2 c4
  go_wp2_with fail
  refine (awake_any _ H2.out.env).mono ?_; rintro e w3 ⟨rfl, hb3⟩
  obtain ⟨g1, g2, g3, g4⟩ := box_at hb3
  rw [← g4.cell (p := ⟨w1.heap.size, 0, none⟩) c3] at c1
  rw [← g4.cell (p := ⟨w1.heap.size, 1, none⟩) c3] at c2
  have d3 := d2.trans (g4.mono d2.size)
  clear hb3 g4
  go_wp2_with fail
  all_goals (try (exfalso; omega))
  go_ret
  exact ⟨rfl, d3⟩

set_option maxRecDepth 100000 in
theorem lawTells_any (a b size : Int) (w : World) (hE : EnvP w) (h2 : b ≤ 9223372036854775807) (h3 : size ≤ 9223372036854775807) :
    Calls Tryd.prog 7 #[.agg #[.int .i64 a, .int .i64 b], .int .i64 size] w fun e w' => e = .returned (.bool true) ∧ Below w.heap.size w w' := by
  have l1 : 0 ≤ size → (noneL size).length ≤ 40 := fun h0 => by
    have := Lib.itoa_length_le size (by omega) (by omega)
    unfold noneL; simp; omega
  have l2 : isO a b size = true → (tellL a b size).length ≤ 100 := fun h0 => by
    have ho := of_decide_eq_true h0
    have := Lib.itoa_length_le size (by omega) (by omega)
    have := bytesL_le a b ho.1 ho.2.1 h2
    unfold tellL; simp; omega
  have q1 : 0 ≤ size → size ≤ 4611686018427387904 → Hid (toldM (noneL size) = (0, 0, size, 0)) := told_none size
  have q2 : isO a b size = true → size ≤ 4611686018427387904 → Hid (toldM (tellL a b size) = (a, b, size, 0)) := told_tell a b size
  have hon : isO a b size = true → 0 < size := fun h0 => by have ho := of_decide_eq_true h0; omega
  have htv : Hid (tellV a b size = .tuple #[.string (if isO a b size then bs (tellL a b size) else ⟨#[]⟩), .int .i64 (if isO a b size then 0 else 91)]) := rfl
  have hnv : Hid (noneV size = .tuple #[.string (if size < 0 then ⟨#[]⟩ else bs (noneL size)), .int .i64 (if size < 0 then 1 else 0)]) := rfl
  obtain ⟨x, hx⟩ := name_it (tellL a b size)
  obtain ⟨y, hy⟩ := name_it (noneL size)
  rw [hx.out] at l2 q2 htv
  rw [hy.out] at l1 q1 hnv
  have H0 := Lib.hid (Box2.first hE a b 33)
  clear hE hx hy
  have told := fun (z : List UInt8) (wx : World) (hw : EnvP wx) (hl : z.length ≤ 100) => told_any (bs z) wx hw (by rw [size_bs]; omega)
  have HT := Lib.hid told
  clear told
  by_cases hz : size < 0
  · have ho : isO a b size = false := by cases hq : isO a b size; rfl; have := hon hq; omega
    rw [if_pos hz, if_pos hz] at hnv
    rw [ho, if_neg (by decide), if_neg (by decide)] at htv
    clear q1 q2 l1 l2
    go_enter Tryd.func7, Tryd.ntmps7
    go_wp2_with fail
    refine (tell_any a b size h2 h3 _ H0.out.env).mono ?_; rintro e w1 ⟨rfl, hb1⟩
    rw [htv.out]
    have H1 := Lib.hid (H0.out.next hb1); have c0 := H1.out.c0; have c1 := H1.out.c1
    go_wp2_with fail
    refine (rtell_any a b size h2 h3 _ H1.out.env).mono ?_; rintro e w2 ⟨rfl, hb2⟩
    rw [htv.out]
    have H2 := Lib.hid (H1.out.next hb2)
    go_wp2_with fail
    refine (tellNone_any size h3 _ H2.out.env).mono ?_; rintro e w3 ⟨rfl, hb3⟩
    rw [hnv.out]
    have H3 := Lib.hid (H2.out.next hb3)
    go_wp2_with fail
    refine (rtellNone_any size h3 _ H3.out.env).mono ?_; rintro e w4 ⟨rfl, hb4⟩
    rw [hnv.out]
    have H4 := Lib.hid (H3.out.next hb4)
    go_wp2_with fail
    refine (awake_any _ H4.out.env.env).mono ?_; rintro e w5 ⟨rfl, hb5⟩
    have H5 := Lib.hid (H4.out.next hb5)
    go_wp2_with fail
    all_goals (try (exfalso; omega))
    go_ret
    exact ⟨rfl, H5.out.below⟩
  · rw [if_neg hz, if_neg hz] at hnv
    have L1 := l1 (by omega)
    clear l1
    cases ho : isO a b size
    · rw [ho, if_neg (by decide), if_neg (by decide)] at htv
      clear q2 l2 hon ho
      by_cases hbig : 4611686018427387904 < size
      · clear q1
        go_enter Tryd.func7, Tryd.ntmps7
        go_wp2_with fail
        refine (tell_any a b size h2 h3 _ H0.out.env).mono ?_; rintro e w1 ⟨rfl, hb1⟩
        rw [htv.out]
        have H1 := Lib.hid (H0.out.next hb1); have c0 := H1.out.c0; have c1 := H1.out.c1
        go_wp2_with fail
        refine (rtell_any a b size h2 h3 _ H1.out.env).mono ?_; rintro e w2 ⟨rfl, hb2⟩
        rw [htv.out]
        have H2 := Lib.hid (H1.out.next hb2)
        go_wp2_with fail
        refine (tellNone_any size h3 _ H2.out.env).mono ?_; rintro e w3 ⟨rfl, hb3⟩
        rw [hnv.out]
        have H3 := Lib.hid (H2.out.next hb3)
        go_wp2_with fail
        refine (rtellNone_any size h3 _ H3.out.env).mono ?_; rintro e w4 ⟨rfl, hb4⟩
        rw [hnv.out]
        have H4 := Lib.hid (H3.out.next hb4)
        go_wp2_with fail
        refine (awake_any _ H4.out.env.env).mono ?_; rintro e w5 ⟨rfl, hb5⟩
        have H5 := Lib.hid (H4.out.next hb5)
        go_wp2_with fail
        all_goals (try (exfalso; omega))
        go_ret
        exact ⟨rfl, H5.out.below⟩
      · have Q1 := q1 (by omega) (by omega)
        clear q1
        go_enter Tryd.func7, Tryd.ntmps7
        go_wp2_with fail
        refine (tell_any a b size h2 h3 _ H0.out.env).mono ?_; rintro e w1 ⟨rfl, hb1⟩
        rw [htv.out]
        have H1 := Lib.hid (H0.out.next hb1); have c0 := H1.out.c0; have c1 := H1.out.c1
        go_wp2_with fail
        refine (rtell_any a b size h2 h3 _ H1.out.env).mono ?_; rintro e w2 ⟨rfl, hb2⟩
        rw [htv.out]
        have H2 := Lib.hid (H1.out.next hb2)
        go_wp2_with fail
        refine (tellNone_any size h3 _ H2.out.env).mono ?_; rintro e w3 ⟨rfl, hb3⟩
        rw [hnv.out]
        have H3 := Lib.hid (H2.out.next hb3)
        go_wp2_with fail
        refine (rtellNone_any size h3 _ H3.out.env).mono ?_; rintro e w4 ⟨rfl, hb4⟩
        rw [hnv.out]
        have H4 := Lib.hid (H3.out.next hb4)
        go_wp2_with fail
        refine (awake_any _ H4.out.env.env).mono ?_; rintro e w5 ⟨rfl, hb5⟩
        have H5 := Lib.hid (H4.out.next hb5)
        go_wp2_with fail
        all_goals (try (exfalso; omega))
        refine (HT.out y _ H5.out.env (by omega)).mono ?_; rintro e w6 ⟨rfl, hb6⟩
        rw [L_bs, Q1.out]
        simp only [toldV]
        have H6 := Lib.hid (H5.out.next hb6)
        have hfin := (H6.out.below.alloc H6.out.below.size (.cells #[.int .i64 0, .int .i64 0] 33))
        go_wp2_with fail
        all_goals (try (exfalso; omega))
        go_ret
        exact ⟨rfl, hfin⟩
    · have L2 := l2 ho
      have hsz := hon ho
      rw [ho, if_pos rfl, if_pos rfl] at htv
      clear l2 hon
      by_cases hbig : 4611686018427387904 < size
      · clear q1 q2 ho
        go_enter Tryd.func7, Tryd.ntmps7
        go_wp2_with fail
        refine (tell_any a b size h2 h3 _ H0.out.env).mono ?_; rintro e w1 ⟨rfl, hb1⟩
        rw [htv.out]
        have H1 := Lib.hid (H0.out.next hb1); have c0 := H1.out.c0; have c1 := H1.out.c1
        go_wp2_with fail
        refine (rtell_any a b size h2 h3 _ H1.out.env).mono ?_; rintro e w2 ⟨rfl, hb2⟩
        rw [htv.out]
        have H2 := Lib.hid (H1.out.next hb2)
        go_wp2_with fail
        refine (tellNone_any size h3 _ H2.out.env).mono ?_; rintro e w3 ⟨rfl, hb3⟩
        rw [hnv.out]
        have H3 := Lib.hid (H2.out.next hb3)
        go_wp2_with fail
        refine (rtellNone_any size h3 _ H3.out.env).mono ?_; rintro e w4 ⟨rfl, hb4⟩
        rw [hnv.out]
        have H4 := Lib.hid (H3.out.next hb4)
        go_wp2_with fail
        refine (awake_any _ H4.out.env.env).mono ?_; rintro e w5 ⟨rfl, hb5⟩
        have H5 := Lib.hid (H4.out.next hb5)
        go_wp2_with fail
        all_goals (try (exfalso; omega))
        go_ret
        exact ⟨rfl, H5.out.below⟩
      · have Q1 := q1 (by omega) (by omega)
        have Q2 := q2 ho (by omega)
        clear q1 q2 ho
        go_enter Tryd.func7, Tryd.ntmps7
        go_wp2_with fail
        refine (tell_any a b size h2 h3 _ H0.out.env).mono ?_; rintro e w1 ⟨rfl, hb1⟩
        rw [htv.out]
        have H1 := Lib.hid (H0.out.next hb1); have c0 := H1.out.c0; have c1 := H1.out.c1
        go_wp2_with fail
        refine (rtell_any a b size h2 h3 _ H1.out.env).mono ?_; rintro e w2 ⟨rfl, hb2⟩
        rw [htv.out]
        have H2 := Lib.hid (H1.out.next hb2)
        go_wp2_with fail
        refine (tellNone_any size h3 _ H2.out.env).mono ?_; rintro e w3 ⟨rfl, hb3⟩
        rw [hnv.out]
        have H3 := Lib.hid (H2.out.next hb3)
        go_wp2_with fail
        refine (rtellNone_any size h3 _ H3.out.env).mono ?_; rintro e w4 ⟨rfl, hb4⟩
        rw [hnv.out]
        have H4 := Lib.hid (H3.out.next hb4)
        go_wp2_with fail
        refine (awake_any _ H4.out.env.env).mono ?_; rintro e w5 ⟨rfl, hb5⟩
        have H5 := Lib.hid (H4.out.next hb5)
        go_wp2_with fail
        all_goals (try (exfalso; omega))
        refine (HT.out y _ H5.out.env (by omega)).mono ?_; rintro e w6 ⟨rfl, hb6⟩
        rw [L_bs, Q1.out]
        simp only [toldV]
        have H6 := Lib.hid (H5.out.next hb6)
        have H7 := Lib.hid (H6.out.next ((Below.refl _ _).alloc (Nat.le_refl _) (.cells #[.int .i64 0, .int .i64 0] 33)))
        go_wp2_with fail
        all_goals (try (exfalso; omega))
        refine (HT.out x _ H7.out.env (by omega)).mono ?_; rintro e w8 ⟨rfl, hb8⟩
        rw [L_bs, Q2.out]
        simp only [toldV]
        have H8 := Lib.hid (H7.out.next hb8)
        have H9 := Lib.hid (H8.out.next ((Below.refl _ _).alloc (Nat.le_refl _) (.cells #[.int .i64 a, .int .i64 b] 33)))
        have c0 := H9.out.c0
        have c1 := H9.out.c1
        go_wp2_with fail
        all_goals (try (exfalso; omega))
        go_ret
        exact ⟨rfl, H9.out.below⟩
end Go.Proofs.YtnodboggemggmaaDoor
