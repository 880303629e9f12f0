/- Contracts of the document's met and Decide. -/
import Derived.Test.YtjalfddedikibaaGreatDoorTagRaJ
import Derived.Test.YtjalfddedikibaaGreatDoorTagEJ
import Derived.Test.YtjalfddedikibaaGreatDoorTagOJ
namespace Go.Proofs.YtjalfddedikibaaGreatDoor
open Go Go.RowKit Go.Sort
set_option maxHeartbeats 8000000


set_option maxRecDepth 100000 in
theorem metA_any (X : ByteArray) (g1 : Bool) (g2 : List UInt8) (stm : Int) (std : Bool) (stt strong : Bool) (w : World) (hs : X.size ≤ 1048576) :
    Calls Tryz.prog 24 #[.string X, .agg #[.bool false, .bool g1, .string (bs g2), .bool stt, .int .i64 stm, .bool std], .bool strong] w fun e w' => e = .returned (.bool (if (listT (L X)).star = true then false else (listT (L X)).ts.any (fun _ => false))) ∧ Below w.heap.size w w' := by
  have LS := Lib.hid (fun wx => rlist_any X wx hs)
  have hll := listT_len (L X)
  rw [L_length] at hll
  obtain ⟨⟨ts, star, at_, er⟩, hr⟩ := name_it (listT (L X))
  rw [hr.out] at LS hll ⊢
  unfold ListRes at LS
  simp only at LS hll ⊢
  have hts : ts.length ≤ 1073741824 := by omega
  obtain ⟨Y, hY⟩ := name_it (bs g2)
  have M0 : Hid (Blk (w.alloc (.cells #[.bool false, .bool g1, .string Y, .bool stt, .int .i64 stm, .bool std] tRSt)) w.heap.size tRSt #[.bool false, .bool g1, .string Y, .bool stt, .int .i64 stm, .bool std]) := Blk.new w tRSt _
  have B0 : Hid (Below w.heap.size w (w.alloc (.cells #[.bool false, .bool g1, .string Y, .bool stt, .int .i64 stm, .bool std] tRSt))) := (Below.refl _ _).alloc (Nat.le_refl _) _
  rw [hY.out]
  clear hr hs hll hY
  go_enter Tryz.func24, Tryz.ntmps24
  go_wp2_with fail
  refine (LS.out _).mono ?_; rintro e w1 ⟨⟨v1, rfl, o1⟩, b1⟩
  have O1 := Lib.hid o1
  have M1 := Lib.hid (M0.out.below b1 M0.out.lt)
  have B1 := Lib.hid (B0.out.trans (b1.mono B0.out.size))
  obtain ⟨p, cap, rfl⟩ := row_slice o1
  clear b1 o1 LS M0 B0
  obtain ⟨m0, hm0⟩ := name_it w.heap.size
  rw [hm0.out] at M1 ⊢
  have BZ : Hid (∀ W, Below w1.heap.size w1 W → Below w.heap.size w W) := fun W h => B1.out.trans (h.mono B1.out.size)
  clear hm0
  cases star with
  | true =>
    have x0 : w1.cell? ⟨m0, 0, none⟩ = some (.bool false) := M1.out.cell 0
    go_wp2_with fail
    all_goals (try (exfalso; omega))
    go_ret
    exact ⟨ret_bool (by simp), BZ.out _ (Below.refl _ _)⟩
  | false =>
    have hn0 : Hid ((ts.take 0).any (fun _ => false) = false) := rfl
    have hb0 : Hid (Below w1.heap.size w1 w1) := Below.refl _ _
    go_wp2_with fail
    all_goals (try (exfalso; omega))
    go_loopw [25] (fun i wr => ∃ k : Nat, k ≤ ts.length ∧ i = .int .i64 k ∧ Hid ((ts.take k).any (fun _ => false) = false) ∧ Hid (Below w1.heap.size w1 wr)) (fun i _ => ts.length - (intOf i).toNat)
    case atStart => exact ⟨0, Nat.zero_le _, rfl, hn0, hb0⟩
    clear hn0 hb0
    case round =>
      obtain ⟨k, hk, rfl, hn, hB⟩ := hrel
      obtain ⟨wq, hwq⟩ : ∃ wq, wq = wr := ⟨wr, rfl⟩
      subst hwq
      by_cases hlt : k < ts.length
      · have q0 : (0 : Int) ≤ (k : Int) := by omega
        have q1 : (k : Int) < (ts.length : Int) := by omega
        obtain ⟨g, rfl⟩ : ∃ g, p = some ⟨g, 0, none⟩ := by
          rcases O1.out.2 with ⟨_, h0⟩ | ⟨g, cap', cur, h, _⟩
          · omega
          · injection h with h _ _; exact ⟨g, h⟩
        have hg := (World.ownsRow.lt O1.out g rfl).2
        have c1 : wq.cell? ⟨g, k * 2, none⟩ = some (.bool ts[k].1) := (hB.out.cell (p := ⟨g, k * 2, none⟩) hg).trans ((O1.out.cellAt (k * 2) (by omega)).trans (rowTg_get ts k hlt).1)
        have c2 : wq.cell? ⟨g, k * 2 + 1, none⟩ = some (.string (bs ts[k].2)) := (hB.out.cell (p := ⟨g, k * 2 + 1, none⟩) hg).trans ((O1.out.cellAt (k * 2 + 1) (by omega)).trans (rowTg_get ts k hlt).2)
        have hts2 : (ts.take (k + 1)).any (fun _ => false) = (fun _ => false) ts[k] := by
          rw [List.take_succ_eq_append_getElem hlt, List.any_append, hn.out]; simp
        have hal : (fun _ => false) ts[k] = true → ts.any (fun _ => false) = true := fun h => List.any_eq_true.2 ⟨_, List.getElem_mem hlt, h⟩
        simp only at hts2 hal
        obtain ⟨⟨t1, t2⟩, ht⟩ := name_it ts[k]
        try rw [ht.out] at hts2 hal
        rw [ht.out] at c1 c2
        simp only at c1 c2
        have hmq := Lib.hid (M1.out.below hB.out M1.out.lt)
        have Z : ∃ Z : ByteArray, t2 = L Z := ⟨bs t2, rfl⟩
        obtain ⟨Z, rfl⟩ := Z
        rw [bs_L] at c2
        have KB : Hid (Blk (wq.alloc (.cells #[.bool t1, .string Z] tRT)) wq.heap.size tRT #[.bool t1, .string Z]) := Blk.new wq tRT _
        have MB := Lib.hid (hmq.out.alloc (.cells #[.bool t1, .string Z] tRT))
        have B2 : Hid (Below w1.heap.size w1 (wq.alloc (.cells #[.bool t1, .string Z] tRT))) := hB.out.alloc hB.out.size _
        have x0 : (wq.alloc (.cells #[.bool t1, .string Z] tRT)).cell? ⟨m0, 0, none⟩ = some (.bool false) := MB.out.cell 0
        have x1 : (wq.alloc (.cells #[.bool t1, .string Z] tRT)).cell? ⟨m0, 1, none⟩ = some (.bool g1) := MB.out.cell 1
        have x2 : (wq.alloc (.cells #[.bool t1, .string Z] tRT)).cell? ⟨m0, 2, none⟩ = some (.string Y) := MB.out.cell 2
        have x3 : (wq.alloc (.cells #[.bool t1, .string Z] tRT)).cell? ⟨m0, 3, none⟩ = some (.bool stt) := MB.out.cell 3
        clear ht
        have HN := Lib.hid hts2
        clear hts2 hal
        go_wp2_with fail
        all_goals (try (exfalso; omega))
        all_goals
          go_roundw
          case rel => exact ⟨k + 1, by omega, by go_num, HN, B2⟩
          case measure => simp [intOf] <;> omega
      · obtain rfl : k = ts.length := by omega
        rw [List.take_length] at hn
        go_wp2_with fail
        all_goals (try (exfalso; omega))
        go_ret
        exact ⟨ret_bool (by have h := hn.out; first | exact h.symm | (simp only [Bool.false_eq_true, if_false]; exact h.symm)), BZ.out _ hB.out⟩

set_option maxRecDepth 100000 in
theorem metB_any (X : ByteArray) (g1 : Bool) (g2 : List UInt8) (stm : Int) (std : Bool) (strong : Bool) (w : World) (hs : X.size ≤ 1048576) :
    Calls Tryz.prog 24 #[.string X, .agg #[.bool true, .bool g1, .string (bs g2), .bool false, .int .i64 stm, .bool std], .bool strong] w fun e w' => e = .returned (.bool (if (listT (L X)).star = true then true else (listT (L X)).ts.any (fun _ => false))) ∧ Below w.heap.size w w' := by
  have LS := Lib.hid (fun wx => rlist_any X wx hs)
  have hll := listT_len (L X)
  rw [L_length] at hll
  obtain ⟨⟨ts, star, at_, er⟩, hr⟩ := name_it (listT (L X))
  rw [hr.out] at LS hll ⊢
  unfold ListRes at LS
  simp only at LS hll ⊢
  have hts : ts.length ≤ 1073741824 := by omega
  obtain ⟨Y, hY⟩ := name_it (bs g2)
  have M0 : Hid (Blk (w.alloc (.cells #[.bool true, .bool g1, .string Y, .bool false, .int .i64 stm, .bool std] tRSt)) w.heap.size tRSt #[.bool true, .bool g1, .string Y, .bool false, .int .i64 stm, .bool std]) := Blk.new w tRSt _
  have B0 : Hid (Below w.heap.size w (w.alloc (.cells #[.bool true, .bool g1, .string Y, .bool false, .int .i64 stm, .bool std] tRSt))) := (Below.refl _ _).alloc (Nat.le_refl _) _
  rw [hY.out]
  clear hr hs hll hY
  go_enter Tryz.func24, Tryz.ntmps24
  go_wp2_with fail
  refine (LS.out _).mono ?_; rintro e w1 ⟨⟨v1, rfl, o1⟩, b1⟩
  have O1 := Lib.hid o1
  have M1 := Lib.hid (M0.out.below b1 M0.out.lt)
  have B1 := Lib.hid (B0.out.trans (b1.mono B0.out.size))
  obtain ⟨p, cap, rfl⟩ := row_slice o1
  clear b1 o1 LS M0 B0
  obtain ⟨m0, hm0⟩ := name_it w.heap.size
  rw [hm0.out] at M1 ⊢
  have BZ : Hid (∀ W, Below w1.heap.size w1 W → Below w.heap.size w W) := fun W h => B1.out.trans (h.mono B1.out.size)
  clear hm0
  cases star with
  | true =>
    have x0 : w1.cell? ⟨m0, 0, none⟩ = some (.bool true) := M1.out.cell 0
    go_wp2_with fail
    all_goals (try (exfalso; omega))
    go_ret
    exact ⟨ret_bool (by simp), BZ.out _ (Below.refl _ _)⟩
  | false =>
    have hn0 : Hid ((ts.take 0).any (fun _ => false) = false) := rfl
    have hb0 : Hid (Below w1.heap.size w1 w1) := Below.refl _ _
    go_wp2_with fail
    all_goals (try (exfalso; omega))
    go_loopw [25] (fun i wr => ∃ k : Nat, k ≤ ts.length ∧ i = .int .i64 k ∧ Hid ((ts.take k).any (fun _ => false) = false) ∧ Hid (Below w1.heap.size w1 wr)) (fun i _ => ts.length - (intOf i).toNat)
    case atStart => exact ⟨0, Nat.zero_le _, rfl, hn0, hb0⟩
    clear hn0 hb0
    case round =>
      obtain ⟨k, hk, rfl, hn, hB⟩ := hrel
      obtain ⟨wq, hwq⟩ : ∃ wq, wq = wr := ⟨wr, rfl⟩
      subst hwq
      by_cases hlt : k < ts.length
      · have q0 : (0 : Int) ≤ (k : Int) := by omega
        have q1 : (k : Int) < (ts.length : Int) := by omega
        obtain ⟨g, rfl⟩ : ∃ g, p = some ⟨g, 0, none⟩ := by
          rcases O1.out.2 with ⟨_, h0⟩ | ⟨g, cap', cur, h, _⟩
          · omega
          · injection h with h _ _; exact ⟨g, h⟩
        have hg := (World.ownsRow.lt O1.out g rfl).2
        have c1 : wq.cell? ⟨g, k * 2, none⟩ = some (.bool ts[k].1) := (hB.out.cell (p := ⟨g, k * 2, none⟩) hg).trans ((O1.out.cellAt (k * 2) (by omega)).trans (rowTg_get ts k hlt).1)
        have c2 : wq.cell? ⟨g, k * 2 + 1, none⟩ = some (.string (bs ts[k].2)) := (hB.out.cell (p := ⟨g, k * 2 + 1, none⟩) hg).trans ((O1.out.cellAt (k * 2 + 1) (by omega)).trans (rowTg_get ts k hlt).2)
        have hts2 : (ts.take (k + 1)).any (fun _ => false) = (fun _ => false) ts[k] := by
          rw [List.take_succ_eq_append_getElem hlt, List.any_append, hn.out]; simp
        have hal : (fun _ => false) ts[k] = true → ts.any (fun _ => false) = true := fun h => List.any_eq_true.2 ⟨_, List.getElem_mem hlt, h⟩
        simp only at hts2 hal
        obtain ⟨⟨t1, t2⟩, ht⟩ := name_it ts[k]
        try rw [ht.out] at hts2 hal
        rw [ht.out] at c1 c2
        simp only at c1 c2
        have hmq := Lib.hid (M1.out.below hB.out M1.out.lt)
        have Z : ∃ Z : ByteArray, t2 = L Z := ⟨bs t2, rfl⟩
        obtain ⟨Z, rfl⟩ := Z
        rw [bs_L] at c2
        have KB : Hid (Blk (wq.alloc (.cells #[.bool t1, .string Z] tRT)) wq.heap.size tRT #[.bool t1, .string Z]) := Blk.new wq tRT _
        have MB := Lib.hid (hmq.out.alloc (.cells #[.bool t1, .string Z] tRT))
        have B2 : Hid (Below w1.heap.size w1 (wq.alloc (.cells #[.bool t1, .string Z] tRT))) := hB.out.alloc hB.out.size _
        have x0 : (wq.alloc (.cells #[.bool t1, .string Z] tRT)).cell? ⟨m0, 0, none⟩ = some (.bool true) := MB.out.cell 0
        have x1 : (wq.alloc (.cells #[.bool t1, .string Z] tRT)).cell? ⟨m0, 1, none⟩ = some (.bool g1) := MB.out.cell 1
        have x2 : (wq.alloc (.cells #[.bool t1, .string Z] tRT)).cell? ⟨m0, 2, none⟩ = some (.string Y) := MB.out.cell 2
        have x3 : (wq.alloc (.cells #[.bool t1, .string Z] tRT)).cell? ⟨m0, 3, none⟩ = some (.bool false) := MB.out.cell 3
        clear ht
        have HN := Lib.hid hts2
        clear hts2 hal
        go_wp2_with fail
        all_goals (try (exfalso; omega))
        all_goals
          go_roundw
          case rel => exact ⟨k + 1, by omega, by go_num, HN, B2⟩
          case measure => simp [intOf] <;> omega
      · obtain rfl : k = ts.length := by omega
        rw [List.take_length] at hn
        go_wp2_with fail
        all_goals (try (exfalso; omega))
        go_ret
        exact ⟨ret_bool (by have h := hn.out; first | exact h.symm | (simp only [Bool.false_eq_true, if_false]; exact h.symm)), BZ.out _ hB.out⟩

set_option maxRecDepth 100000 in
theorem metC_any (X : ByteArray) (g1 : Bool) (g2 : List UInt8) (stm : Int) (std : Bool)  (w : World) (hs : X.size ≤ 1048576) :
    Calls Tryz.prog 24 #[.string X, .agg #[.bool true, .bool g1, .string (bs g2), .bool true, .int .i64 stm, .bool std], .bool true] w fun e w' => e = .returned (.bool (if (listT (L X)).star = true then true else (listT (L X)).ts.any (fun t => strongT t (g1, g2)))) ∧ Below w.heap.size w w' := by
  have LS := Lib.hid (fun wx => rlist_any X wx hs)
  have hll := listT_len (L X)
  rw [L_length] at hll
  obtain ⟨⟨ts, star, at_, er⟩, hr⟩ := name_it (listT (L X))
  rw [hr.out] at LS hll ⊢
  unfold ListRes at LS
  simp only at LS hll ⊢
  have hts : ts.length ≤ 1073741824 := by omega
  obtain ⟨Y, hY⟩ := name_it (bs g2)
  have M0 : Hid (Blk (w.alloc (.cells #[.bool true, .bool g1, .string Y, .bool true, .int .i64 stm, .bool std] tRSt)) w.heap.size tRSt #[.bool true, .bool g1, .string Y, .bool true, .int .i64 stm, .bool std]) := Blk.new w tRSt _
  have B0 : Hid (Below w.heap.size w (w.alloc (.cells #[.bool true, .bool g1, .string Y, .bool true, .int .i64 stm, .bool std] tRSt))) := (Below.refl _ _).alloc (Nat.le_refl _) _
  have CT := Lib.hid (fun (b : Bool) (Z : ByteArray) wx => rstrong_any (b, L Z) (g1, g2) wx)
  unfold encT at CT
  simp only [bs_L] at CT
  rw [hY.out] at CT
  rw [hY.out]
  clear hr hs hll hY
  go_enter Tryz.func24, Tryz.ntmps24
  go_wp2_with fail
  refine (LS.out _).mono ?_; rintro e w1 ⟨⟨v1, rfl, o1⟩, b1⟩
  have O1 := Lib.hid o1
  have M1 := Lib.hid (M0.out.below b1 M0.out.lt)
  have B1 := Lib.hid (B0.out.trans (b1.mono B0.out.size))
  obtain ⟨p, cap, rfl⟩ := row_slice o1
  clear b1 o1 LS M0 B0
  obtain ⟨m0, hm0⟩ := name_it w.heap.size
  rw [hm0.out] at M1 ⊢
  have BZ : Hid (∀ W, Below w1.heap.size w1 W → Below w.heap.size w W) := fun W h => B1.out.trans (h.mono B1.out.size)
  clear hm0
  cases star with
  | true =>
    have x0 : w1.cell? ⟨m0, 0, none⟩ = some (.bool true) := M1.out.cell 0
    go_wp2_with fail
    all_goals (try (exfalso; omega))
    go_ret
    exact ⟨ret_bool (by simp), BZ.out _ (Below.refl _ _)⟩
  | false =>
    have hn0 : Hid ((ts.take 0).any (fun t => strongT t (g1, g2)) = false) := rfl
    have hb0 : Hid (Below w1.heap.size w1 w1) := Below.refl _ _
    go_wp2_with fail
    all_goals (try (exfalso; omega))
    go_loopw [25] (fun i wr => ∃ k : Nat, k ≤ ts.length ∧ i = .int .i64 k ∧ Hid ((ts.take k).any (fun t => strongT t (g1, g2)) = false) ∧ Hid (Below w1.heap.size w1 wr)) (fun i _ => ts.length - (intOf i).toNat)
    case atStart => exact ⟨0, Nat.zero_le _, rfl, hn0, hb0⟩
    clear hn0 hb0
    case round =>
      obtain ⟨k, hk, rfl, hn, hB⟩ := hrel
      obtain ⟨wq, hwq⟩ : ∃ wq, wq = wr := ⟨wr, rfl⟩
      subst hwq
      by_cases hlt : k < ts.length
      · have q0 : (0 : Int) ≤ (k : Int) := by omega
        have q1 : (k : Int) < (ts.length : Int) := by omega
        obtain ⟨g, rfl⟩ : ∃ g, p = some ⟨g, 0, none⟩ := by
          rcases O1.out.2 with ⟨_, h0⟩ | ⟨g, cap', cur, h, _⟩
          · omega
          · injection h with h _ _; exact ⟨g, h⟩
        have hg := (World.ownsRow.lt O1.out g rfl).2
        have c1 : wq.cell? ⟨g, k * 2, none⟩ = some (.bool ts[k].1) := (hB.out.cell (p := ⟨g, k * 2, none⟩) hg).trans ((O1.out.cellAt (k * 2) (by omega)).trans (rowTg_get ts k hlt).1)
        have c2 : wq.cell? ⟨g, k * 2 + 1, none⟩ = some (.string (bs ts[k].2)) := (hB.out.cell (p := ⟨g, k * 2 + 1, none⟩) hg).trans ((O1.out.cellAt (k * 2 + 1) (by omega)).trans (rowTg_get ts k hlt).2)
        have hts2 : (ts.take (k + 1)).any (fun t => strongT t (g1, g2)) = (fun t => strongT t (g1, g2)) ts[k] := by
          rw [List.take_succ_eq_append_getElem hlt, List.any_append, hn.out]; simp
        have hal : (fun t => strongT t (g1, g2)) ts[k] = true → ts.any (fun t => strongT t (g1, g2)) = true := fun h => List.any_eq_true.2 ⟨_, List.getElem_mem hlt, h⟩
        simp only at hts2 hal
        obtain ⟨⟨t1, t2⟩, ht⟩ := name_it ts[k]
        try rw [ht.out] at hts2 hal
        rw [ht.out] at c1 c2
        simp only at c1 c2
        have hmq := Lib.hid (M1.out.below hB.out M1.out.lt)
        have Z : ∃ Z : ByteArray, t2 = L Z := ⟨bs t2, rfl⟩
        obtain ⟨Z, rfl⟩ := Z
        rw [bs_L] at c2
        have KB : Hid (Blk (wq.alloc (.cells #[.bool t1, .string Z] tRT)) wq.heap.size tRT #[.bool t1, .string Z]) := Blk.new wq tRT _
        have MB := Lib.hid (hmq.out.alloc (.cells #[.bool t1, .string Z] tRT))
        have B2 : Hid (Below w1.heap.size w1 (wq.alloc (.cells #[.bool t1, .string Z] tRT))) := hB.out.alloc hB.out.size _
        have x0 : (wq.alloc (.cells #[.bool t1, .string Z] tRT)).cell? ⟨m0, 0, none⟩ = some (.bool true) := MB.out.cell 0
        have x1 : (wq.alloc (.cells #[.bool t1, .string Z] tRT)).cell? ⟨m0, 1, none⟩ = some (.bool g1) := MB.out.cell 1
        have x2 : (wq.alloc (.cells #[.bool t1, .string Z] tRT)).cell? ⟨m0, 2, none⟩ = some (.string Y) := MB.out.cell 2
        have x3 : (wq.alloc (.cells #[.bool t1, .string Z] tRT)).cell? ⟨m0, 3, none⟩ = some (.bool true) := MB.out.cell 3
        clear ht
        have CL := Lib.hid (CT.out t1 Z (wq.alloc (.cells #[.bool t1, .string Z] tRT)))
        cases hrr : strongT (t1, L Z) (g1, g2) with
        | true =>
          rw [hrr] at CL
          have HA := Lib.hid (hal hrr)
          clear hrr hts2 hal
          go_wp2_with fail
          all_goals (try (exfalso; omega))
          refine CL.out.mono ?_; rintro e w5 ⟨rfl, q5, os5, h5⟩
          have b5 : Below (wq.alloc (.cells #[.bool t1, .string Z] tRT)).heap.size (wq.alloc (.cells #[.bool t1, .string Z] tRT)) w5 := by rw [h5]; exact below_grow q5 os5
          have B5 := Lib.hid (B2.out.trans (b5.mono B2.out.size))
          clear b5 h5 CL c1 c2 x0 x1 x2 x3
          go_wp2_with fail
          all_goals (try (exfalso; omega))
          go_ret
          exact ⟨ret_bool (by first | (rw [HA.out]; done) | (rw [HA.out]; simp)), BZ.out _ B5.out⟩
        | false =>
          rw [hrr] at CL hts2
          have HN := Lib.hid hts2
          clear hrr hts2 hal
          go_wp2_with fail
          all_goals (try (exfalso; omega))
          refine CL.out.mono ?_; rintro e w5 ⟨rfl, q5, os5, h5⟩
          have b5 : Below (wq.alloc (.cells #[.bool t1, .string Z] tRT)).heap.size (wq.alloc (.cells #[.bool t1, .string Z] tRT)) w5 := by rw [h5]; exact below_grow q5 os5
          have B5 := Lib.hid (B2.out.trans (b5.mono B2.out.size))
          clear b5 h5 CL c1 c2 x0 x1 x2 x3
          go_wp2_with fail
          all_goals (try (exfalso; omega))
          go_roundw
          case rel => exact ⟨k + 1, by omega, by go_num, HN, B5⟩
          case measure => simp [intOf] <;> omega
      · obtain rfl : k = ts.length := by omega
        rw [List.take_length] at hn
        go_wp2_with fail
        all_goals (try (exfalso; omega))
        go_ret
        exact ⟨ret_bool (by have h := hn.out; first | exact h.symm | (simp only [Bool.false_eq_true, if_false]; exact h.symm)), BZ.out _ hB.out⟩

set_option maxRecDepth 100000 in
theorem metD_any (X : ByteArray) (g1 : Bool) (g2 : List UInt8) (stm : Int) (std : Bool)  (w : World) (hs : X.size ≤ 1048576) :
    Calls Tryz.prog 24 #[.string X, .agg #[.bool true, .bool g1, .string (bs g2), .bool true, .int .i64 stm, .bool std], .bool false] w fun e w' => e = .returned (.bool (if (listT (L X)).star = true then true else (listT (L X)).ts.any (fun t => alikeT t (g1, g2)))) ∧ Below w.heap.size w w' := by
  have LS := Lib.hid (fun wx => rlist_any X wx hs)
  have hll := listT_len (L X)
  rw [L_length] at hll
  obtain ⟨⟨ts, star, at_, er⟩, hr⟩ := name_it (listT (L X))
  rw [hr.out] at LS hll ⊢
  unfold ListRes at LS
  simp only at LS hll ⊢
  have hts : ts.length ≤ 1073741824 := by omega
  obtain ⟨Y, hY⟩ := name_it (bs g2)
  have M0 : Hid (Blk (w.alloc (.cells #[.bool true, .bool g1, .string Y, .bool true, .int .i64 stm, .bool std] tRSt)) w.heap.size tRSt #[.bool true, .bool g1, .string Y, .bool true, .int .i64 stm, .bool std]) := Blk.new w tRSt _
  have B0 : Hid (Below w.heap.size w (w.alloc (.cells #[.bool true, .bool g1, .string Y, .bool true, .int .i64 stm, .bool std] tRSt))) := (Below.refl _ _).alloc (Nat.le_refl _) _
  have CT := Lib.hid (fun (b : Bool) (Z : ByteArray) wx => ralike_any (b, L Z) (g1, g2) wx)
  unfold encT at CT
  simp only [bs_L] at CT
  rw [hY.out] at CT
  rw [hY.out]
  clear hr hs hll hY
  go_enter Tryz.func24, Tryz.ntmps24
  go_wp2_with fail
  refine (LS.out _).mono ?_; rintro e w1 ⟨⟨v1, rfl, o1⟩, b1⟩
  have O1 := Lib.hid o1
  have M1 := Lib.hid (M0.out.below b1 M0.out.lt)
  have B1 := Lib.hid (B0.out.trans (b1.mono B0.out.size))
  obtain ⟨p, cap, rfl⟩ := row_slice o1
  clear b1 o1 LS M0 B0
  obtain ⟨m0, hm0⟩ := name_it w.heap.size
  rw [hm0.out] at M1 ⊢
  have BZ : Hid (∀ W, Below w1.heap.size w1 W → Below w.heap.size w W) := fun W h => B1.out.trans (h.mono B1.out.size)
  clear hm0
  cases star with
  | true =>
    have x0 : w1.cell? ⟨m0, 0, none⟩ = some (.bool true) := M1.out.cell 0
    go_wp2_with fail
    all_goals (try (exfalso; omega))
    go_ret
    exact ⟨ret_bool (by simp), BZ.out _ (Below.refl _ _)⟩
  | false =>
    have hn0 : Hid ((ts.take 0).any (fun t => alikeT t (g1, g2)) = false) := rfl
    have hb0 : Hid (Below w1.heap.size w1 w1) := Below.refl _ _
    go_wp2_with fail
    all_goals (try (exfalso; omega))
    go_loopw [25] (fun i wr => ∃ k : Nat, k ≤ ts.length ∧ i = .int .i64 k ∧ Hid ((ts.take k).any (fun t => alikeT t (g1, g2)) = false) ∧ Hid (Below w1.heap.size w1 wr)) (fun i _ => ts.length - (intOf i).toNat)
    case atStart => exact ⟨0, Nat.zero_le _, rfl, hn0, hb0⟩
    clear hn0 hb0
    case round =>
      obtain ⟨k, hk, rfl, hn, hB⟩ := hrel
      obtain ⟨wq, hwq⟩ : ∃ wq, wq = wr := ⟨wr, rfl⟩
      subst hwq
      by_cases hlt : k < ts.length
      · have q0 : (0 : Int) ≤ (k : Int) := by omega
        have q1 : (k : Int) < (ts.length : Int) := by omega
        obtain ⟨g, rfl⟩ : ∃ g, p = some ⟨g, 0, none⟩ := by
          rcases O1.out.2 with ⟨_, h0⟩ | ⟨g, cap', cur, h, _⟩
          · omega
          · injection h with h _ _; exact ⟨g, h⟩
        have hg := (World.ownsRow.lt O1.out g rfl).2
        have c1 : wq.cell? ⟨g, k * 2, none⟩ = some (.bool ts[k].1) := (hB.out.cell (p := ⟨g, k * 2, none⟩) hg).trans ((O1.out.cellAt (k * 2) (by omega)).trans (rowTg_get ts k hlt).1)
        have c2 : wq.cell? ⟨g, k * 2 + 1, none⟩ = some (.string (bs ts[k].2)) := (hB.out.cell (p := ⟨g, k * 2 + 1, none⟩) hg).trans ((O1.out.cellAt (k * 2 + 1) (by omega)).trans (rowTg_get ts k hlt).2)
        have hts2 : (ts.take (k + 1)).any (fun t => alikeT t (g1, g2)) = (fun t => alikeT t (g1, g2)) ts[k] := by
          rw [List.take_succ_eq_append_getElem hlt, List.any_append, hn.out]; simp
        have hal : (fun t => alikeT t (g1, g2)) ts[k] = true → ts.any (fun t => alikeT t (g1, g2)) = true := fun h => List.any_eq_true.2 ⟨_, List.getElem_mem hlt, h⟩
        simp only at hts2 hal
        obtain ⟨⟨t1, t2⟩, ht⟩ := name_it ts[k]
        try rw [ht.out] at hts2 hal
        rw [ht.out] at c1 c2
        simp only at c1 c2
        have hmq := Lib.hid (M1.out.below hB.out M1.out.lt)
        have Z : ∃ Z : ByteArray, t2 = L Z := ⟨bs t2, rfl⟩
        obtain ⟨Z, rfl⟩ := Z
        rw [bs_L] at c2
        have KB : Hid (Blk (wq.alloc (.cells #[.bool t1, .string Z] tRT)) wq.heap.size tRT #[.bool t1, .string Z]) := Blk.new wq tRT _
        have MB := Lib.hid (hmq.out.alloc (.cells #[.bool t1, .string Z] tRT))
        have B2 : Hid (Below w1.heap.size w1 (wq.alloc (.cells #[.bool t1, .string Z] tRT))) := hB.out.alloc hB.out.size _
        have x0 : (wq.alloc (.cells #[.bool t1, .string Z] tRT)).cell? ⟨m0, 0, none⟩ = some (.bool true) := MB.out.cell 0
        have x1 : (wq.alloc (.cells #[.bool t1, .string Z] tRT)).cell? ⟨m0, 1, none⟩ = some (.bool g1) := MB.out.cell 1
        have x2 : (wq.alloc (.cells #[.bool t1, .string Z] tRT)).cell? ⟨m0, 2, none⟩ = some (.string Y) := MB.out.cell 2
        have x3 : (wq.alloc (.cells #[.bool t1, .string Z] tRT)).cell? ⟨m0, 3, none⟩ = some (.bool true) := MB.out.cell 3
        clear ht
        have CL := Lib.hid (CT.out t1 Z (wq.alloc (.cells #[.bool t1, .string Z] tRT)))
        cases hrr : alikeT (t1, L Z) (g1, g2) with
        | true =>
          rw [hrr] at CL
          have HA := Lib.hid (hal hrr)
          clear hrr hts2 hal
          go_wp2_with fail
          all_goals (try (exfalso; omega))
          refine CL.out.mono ?_; rintro e w5 ⟨rfl, q5, os5, h5⟩
          have b5 : Below (wq.alloc (.cells #[.bool t1, .string Z] tRT)).heap.size (wq.alloc (.cells #[.bool t1, .string Z] tRT)) w5 := by rw [h5]; exact below_grow q5 os5
          have B5 := Lib.hid (B2.out.trans (b5.mono B2.out.size))
          clear b5 h5 CL c1 c2 x0 x1 x2 x3
          go_wp2_with fail
          all_goals (try (exfalso; omega))
          go_ret
          exact ⟨ret_bool (by first | (rw [HA.out]; done) | (rw [HA.out]; simp)), BZ.out _ B5.out⟩
        | false =>
          rw [hrr] at CL hts2
          have HN := Lib.hid hts2
          clear hrr hts2 hal
          go_wp2_with fail
          all_goals (try (exfalso; omega))
          refine CL.out.mono ?_; rintro e w5 ⟨rfl, q5, os5, h5⟩
          have b5 : Below (wq.alloc (.cells #[.bool t1, .string Z] tRT)).heap.size (wq.alloc (.cells #[.bool t1, .string Z] tRT)) w5 := by rw [h5]; exact below_grow q5 os5
          have B5 := Lib.hid (B2.out.trans (b5.mono B2.out.size))
          clear b5 h5 CL c1 c2 x0 x1 x2 x3
          go_wp2_with fail
          all_goals (try (exfalso; omega))
          go_roundw
          case rel => exact ⟨k + 1, by omega, by go_num, HN, B5⟩
          case measure => simp [intOf] <;> omega
      · obtain rfl : k = ts.length := by omega
        rw [List.take_length] at hn
        go_wp2_with fail
        all_goals (try (exfalso; omega))
        go_ret
        exact ⟨ret_bool (by have h := hn.out; first | exact h.symm | (simp only [Bool.false_eq_true, if_false]; exact h.symm)), BZ.out _ hB.out⟩

theorem met_any (X : ByteArray) (s : Sta) (strong : Bool) (w : World) (hs : X.size ≤ 1048576) :
    Calls Tryz.prog 24 #[.string X, encSt s, .bool strong] w fun e w' => e = .returned (.bool (metR strong s (listT (L X)))) ∧ Below w.heap.size w w' := by
  obtain ⟨sth, ⟨g1, g2⟩, stt, stm, std⟩ := s
  have hF : ∀ ts : List Tg, (ts.any fun _ => false) = false := fun ts => by induction ts <;> simp_all
  cases sth with
  | false =>
    refine (metA_any X g1 g2 stm std stt strong w hs).mono fun e w' ⟨h1, h2⟩ => ⟨h1.trans (ret_bool ?_), h2⟩
    unfold metR
    simp only [Bool.false_and]
  | true =>
    cases stt with
    | false =>
      refine (metB_any X g1 g2 stm std strong w hs).mono fun e w' ⟨h1, h2⟩ => ⟨h1.trans (ret_bool ?_), h2⟩
      unfold metR
      simp only [Bool.false_and, Bool.and_false]
    | true =>
      cases strong with
      | true =>
        refine (metC_any X g1 g2 stm std w hs).mono fun e w' ⟨h1, h2⟩ => ⟨h1.trans (ret_bool ?_), h2⟩
        unfold metR
        simp only [Bool.true_and, Bool.not_true, Bool.false_and, Bool.or_false]
      | false =>
        refine (metD_any X g1 g2 stm std w hs).mono fun e w' ⟨h1, h2⟩ => ⟨h1.trans (ret_bool ?_), h2⟩
        unfold metR
        simp only [Bool.true_and, Bool.not_false, Bool.false_and, Bool.false_or]
end Go.Proofs.YtjalfddedikibaaGreatDoor
