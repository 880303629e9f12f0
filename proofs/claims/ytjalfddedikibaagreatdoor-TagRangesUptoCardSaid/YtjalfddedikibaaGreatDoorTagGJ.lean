/- Contracts of tag's Strong and Alike, of the closures that ask them, of slices.ContainsFunc at these. -/
import Derived.Test.YtjalfddedikibaaGreatDoorTagFJ
import Derived.Test.YtjalfddedikibaaGreatDoorTagAJ
import Derived.Deep.QuietTactic
import Derived.BigQuiet
import Derived.Shelf.SlSortCmp.QuietGrown
namespace Go.Proofs.YtjalfddedikibaaGreatDoor
open Go Go.RowKit Go.Sort
set_option maxHeartbeats 4000000

/-- what a resource is -/
structure Sta where
  there : Bool
  tag : Tg
  tagged : Bool
  time : Int
  timed : Bool
abbrev tM : TypeId := 57
def encSt (s : Sta) : Value := .agg #[.bool s.there, .bool s.tag.1, .string (bs s.tag.2), .bool s.tagged, .int .i64 s.time, .bool s.timed]
/-- what is decided about, as it lies in memory -/
def cellsM (reads : Bool) (v : Value) (s : Sta) (now : Int) : Array Value := #[.bool reads, v, .bool s.there, .bool s.tag.1, .string (bs s.tag.2), .bool s.tagged, .int .i64 s.time, .bool s.timed, .int .i64 now]
theorem grow_two (w : World) (o1 o2 : Obj) : ∃ q os', (w.alloc o1).alloc o2 = Sort.grow (w.drewN q) os' := ⟨0, _, by rw [Sort.alloc_eq_grow, Sort.alloc_eq_grow, Sort.grow_grow]; rfl⟩
theorem below_grow {w : World} (n : Nat) (os : Array Obj) : Below w.heap.size w (Sort.grow (w.drewN n) os) := by
  refine ⟨rfl, rfl, rfl, ?_, fun i hi => ?_⟩
  · show w.heap.size ≤ (w.heap ++ os).size; simp
  · show (w.heap ++ os)[i]? = w.heap[i]?
    rw [Array.getElem?_append_left hi]

theorem strong_any (a b : Tg) (w : World) : Calls Tryz.prog 28 #[encT a, encT b] w fun e w' => e = .returned (.bool (strongT a b)) ∧ ∃ q os', w' = Sort.grow (w.drewN q) os' := by
  obtain ⟨a1, a2⟩ := a
  obtain ⟨b1, b2⟩ := b
  obtain ⟨X, hX⟩ := name_it (bs a2)
  obtain ⟨Y, hY⟩ := name_it (bs b2)
  have hxy : (X.toList == Y.toList) = decide (a2 = b2) := by rw [← hX.out, ← hY.out, str_eq, L_bs, L_bs]
  have HXY := Lib.hid hxy
  unfold encT strongT
  simp only [hX.out, hY.out]
  clear hxy
  cases a1 <;> cases b1
  all_goals
    go_enter Tryz.func28, Tryz.ntmps28
    go_wp2_with fail
    go_ret
    refine ⟨ret_bool ?_, grow_two _ _ _⟩
    simp [HXY.out]

theorem alike_any (a b : Tg) (w : World) : Calls Tryz.prog 48 #[encT a, encT b] w fun e w' => e = .returned (.bool (alikeT a b)) ∧ ∃ q os', w' = Sort.grow (w.drewN q) os' := by
  obtain ⟨a1, a2⟩ := a
  obtain ⟨b1, b2⟩ := b
  obtain ⟨X, hX⟩ := name_it (bs a2)
  obtain ⟨Y, hY⟩ := name_it (bs b2)
  have hxy : (X.toList == Y.toList) = decide (a2 = b2) := by rw [← hX.out, ← hY.out, str_eq, L_bs, L_bs]
  have HXY := Lib.hid hxy
  unfold encT alikeT
  simp only [hX.out, hY.out]
  clear hxy
  cases a1 <;> cases b1
  all_goals
    go_enter Tryz.func48, Tryz.ntmps48
    go_wp2_with fail
    go_ret
    refine ⟨ret_bool ?_, grow_two _ _ _⟩
    simp [HXY.out]

set_option maxRecDepth 100000 in
theorem matchC_any (t : Tg) (bx mb : Nat) (rd : Bool) (v : Value) (s : Sta) (now : Int) (w : World) (hbx : w.cell? ⟨bx, 0, none⟩ = some (.pointer (some ⟨mb, 0, none⟩))) (hm : Blk w mb tM (cellsM rd v s now)) :
    Calls Tryz.prog 45 #[encT t, .pointer (some ⟨bx, 0, none⟩)] w fun e w' => e = .returned (.bool (strongT t s.tag)) ∧ Below w.heap.size w w' := by
  have HC := Lib.hid (fun wx => strong_any t s.tag wx)
  obtain ⟨R, hR⟩ := name_it (strongT t s.tag)
  rw [hR.out] at HC ⊢
  obtain ⟨t1, t2⟩ := t
  obtain ⟨X, hX⟩ := name_it (bs t2)
  obtain ⟨Y, hY⟩ := name_it (bs s.tag.2)
  unfold encT at HC ⊢
  simp only [hX.out, hY.out] at HC ⊢
  have hbl : bx < w.heap.size := World.block_lt_of_cell? w ⟨bx, 0, none⟩ hbx
  have hml := hm.lt
  have BX : Hid (Blk (w.alloc (.cells #[.bool t1, .string X] tT)) w.heap.size tT #[.bool t1, .string X]) := Blk.new w tT _
  have MA := Lib.hid (hm.alloc (.cells #[.bool t1, .string X] tT))
  have b1 := (Below.refl w.heap.size w).alloc (Nat.le_refl _) (.cells #[.bool t1, .string X] tT)
  have CB : Hid ((w.alloc (.cells #[.bool t1, .string X] tT)).cell? ⟨bx, 0, none⟩ = some (.pointer (some ⟨mb, 0, none⟩))) := (b1.cell (p := ⟨bx, 0, none⟩) hbl).trans hbx
  have B1 := Lib.hid b1
  clear hbx hm b1 hR hX
  go_enter Tryz.func45, Tryz.ntmps45
  go_wp2_with fail
  obtain ⟨n, hn⟩ := name_it w.heap.size
  rw [hn.out] at BX ⊢
  obtain ⟨wB, hwB⟩ := name_it (w.alloc (.cells #[.bool t1, .string X] tT))
  rw [hwB.out] at BX MA CB B1 ⊢
  clear hwB
  have h1 := BX.out.lt
  have h2 := MA.out.lt
  have h3 : bx < wB.heap.size := World.block_lt_of_cell? wB ⟨bx, 0, none⟩ CB.out
  have mixed : Tryz.prog.follows .mixedOrders = true := by kernel_rfl
  have x0 : ∀ k os, (Sort.grow (wB.drewN k) os).cell? ⟨n, 0, none⟩ = some (.bool t1) := cell_grown (a := ⟨n, 0, none⟩) h1 (BX.out.cell 0)
  have x1 : ∀ k os, (Sort.grow (wB.drewN k) os).cell? ⟨n, 1, none⟩ = some (.string X) := cell_grown (a := ⟨n, 1, none⟩) h1 (BX.out.cell 1)
  have x2 : ∀ k os, (Sort.grow (wB.drewN k) os).cell? ⟨bx, 0, none⟩ = some (.pointer (some ⟨mb, 0, none⟩)) := cell_grown (a := ⟨bx, 0, none⟩) h3 CB.out
  have x3 : ∀ k os, (Sort.grow (wB.drewN k) os).cell? ⟨mb, 3, none⟩ = some (.bool s.tag.1) := cell_grown (a := ⟨mb, 3, none⟩) h2 (MA.out.cell 3)
  have x4 : ∀ k os, (Sort.grow (wB.drewN k) os).cell? ⟨mb, 4, none⟩ = some (.string Y) := cell_grown (a := ⟨mb, 4, none⟩) h2 ((MA.out.cell 4).trans (by rw [← hY.out]; rfl))
  refine wp_region_quiet_grown (by assumption) (by kernel_rfl) ?_
  repeat (go_big_quiet_step ((go_at_call 28; exact (HC.out _).grown_of)))
  refine wpQuiet_nil ?_
  intro _ hw'
  obtain ⟨⟨nq, osq⟩, hw''⟩ := hw'
  subst hw''
  have B2 := Lib.hid (B1.out.trans ((below_grow (w := wB) nq osq).mono B1.out.size))
  obtain ⟨wE, hwE⟩ := name_it (Sort.grow (wB.drewN nq) osq)
  rw [hwE.out] at B2
  dsimp only
  rw [hwE.out]
  clear x0 x1 x2 x3 x4 hwE
  go_wp2_with fail
  go_ret
  exact ⟨rfl, B2.out⟩

set_option maxRecDepth 100000 in
theorem noneC_any (t : Tg) (bx mb : Nat) (rd : Bool) (v : Value) (s : Sta) (now : Int) (w : World) (hbx : w.cell? ⟨bx, 0, none⟩ = some (.pointer (some ⟨mb, 0, none⟩))) (hm : Blk w mb tM (cellsM rd v s now)) :
    Calls Tryz.prog 47 #[encT t, .pointer (some ⟨bx, 0, none⟩)] w fun e w' => e = .returned (.bool (alikeT t s.tag)) ∧ Below w.heap.size w w' := by
  have HC := Lib.hid (fun wx => alike_any t s.tag wx)
  obtain ⟨R, hR⟩ := name_it (alikeT t s.tag)
  rw [hR.out] at HC ⊢
  obtain ⟨t1, t2⟩ := t
  obtain ⟨X, hX⟩ := name_it (bs t2)
  obtain ⟨Y, hY⟩ := name_it (bs s.tag.2)
  unfold encT at HC ⊢
  simp only [hX.out, hY.out] at HC ⊢
  have hbl : bx < w.heap.size := World.block_lt_of_cell? w ⟨bx, 0, none⟩ hbx
  have hml := hm.lt
  have BX : Hid (Blk (w.alloc (.cells #[.bool t1, .string X] tT)) w.heap.size tT #[.bool t1, .string X]) := Blk.new w tT _
  have MA := Lib.hid (hm.alloc (.cells #[.bool t1, .string X] tT))
  have b1 := (Below.refl w.heap.size w).alloc (Nat.le_refl _) (.cells #[.bool t1, .string X] tT)
  have CB : Hid ((w.alloc (.cells #[.bool t1, .string X] tT)).cell? ⟨bx, 0, none⟩ = some (.pointer (some ⟨mb, 0, none⟩))) := (b1.cell (p := ⟨bx, 0, none⟩) hbl).trans hbx
  have B1 := Lib.hid b1
  clear hbx hm b1 hR hX
  go_enter Tryz.func47, Tryz.ntmps47
  go_wp2_with fail
  obtain ⟨n, hn⟩ := name_it w.heap.size
  rw [hn.out] at BX ⊢
  obtain ⟨wB, hwB⟩ := name_it (w.alloc (.cells #[.bool t1, .string X] tT))
  rw [hwB.out] at BX MA CB B1 ⊢
  clear hwB
  have h1 := BX.out.lt
  have h2 := MA.out.lt
  have h3 : bx < wB.heap.size := World.block_lt_of_cell? wB ⟨bx, 0, none⟩ CB.out
  have mixed : Tryz.prog.follows .mixedOrders = true := by kernel_rfl
  have x0 : ∀ k os, (Sort.grow (wB.drewN k) os).cell? ⟨n, 0, none⟩ = some (.bool t1) := cell_grown (a := ⟨n, 0, none⟩) h1 (BX.out.cell 0)
  have x1 : ∀ k os, (Sort.grow (wB.drewN k) os).cell? ⟨n, 1, none⟩ = some (.string X) := cell_grown (a := ⟨n, 1, none⟩) h1 (BX.out.cell 1)
  have x2 : ∀ k os, (Sort.grow (wB.drewN k) os).cell? ⟨bx, 0, none⟩ = some (.pointer (some ⟨mb, 0, none⟩)) := cell_grown (a := ⟨bx, 0, none⟩) h3 CB.out
  have x3 : ∀ k os, (Sort.grow (wB.drewN k) os).cell? ⟨mb, 3, none⟩ = some (.bool s.tag.1) := cell_grown (a := ⟨mb, 3, none⟩) h2 (MA.out.cell 3)
  have x4 : ∀ k os, (Sort.grow (wB.drewN k) os).cell? ⟨mb, 4, none⟩ = some (.string Y) := cell_grown (a := ⟨mb, 4, none⟩) h2 ((MA.out.cell 4).trans (by rw [← hY.out]; rfl))
  refine wp_region_quiet_grown (by assumption) (by kernel_rfl) ?_
  repeat (go_big_quiet_step ((go_at_call 48; exact (HC.out _).grown_of)))
  refine wpQuiet_nil ?_
  intro _ hw'
  obtain ⟨⟨nq, osq⟩, hw''⟩ := hw'
  subst hw''
  have B2 := Lib.hid (B1.out.trans ((below_grow (w := wB) nq osq).mono B1.out.size))
  obtain ⟨wE, hwE⟩ := name_it (Sort.grow (wB.drewN nq) osq)
  rw [hwE.out] at B2
  dsimp only
  rw [hwE.out]
  clear x0 x1 x2 x3 x4 hwE
  go_wp2_with fail
  go_ret
  exact ⟨rfl, B2.out⟩

/-- the place of the first tag that fits, or -1 -/
theorem indexS_any (bx mb : Nat) (rd : Bool) (fv : Value) (s : Sta) (now : Int) (B : Nat) (v : Value) (ts : List Tg) (w : World) (hbx : w.cell? ⟨bx, 0, none⟩ = some (.pointer (some ⟨mb, 0, none⟩))) (hm : Blk w mb tM (cellsM rd fv s now)) (hO : w.ownsRow B tT 2 v ts.length (rowTg ts)) (hl : ts.length ≤ 1048576) :
    Calls Tryz.prog 66 #[v, .func (.func 45) #[] #[.pointer (some ⟨bx, 0, none⟩)]] w fun e w' => (∃ n : Int, e = .returned (.int .i64 n) ∧ decide (0 ≤ n) = ts.any fun t => strongT t s.tag) ∧ Below w.heap.size w w' := by
  obtain ⟨p, cap, rfl⟩ := row_slice hO
  have HB := Lib.hid hbx
  have HM := Lib.hid hm
  have HO := Lib.hid hO
  have B0 : Hid (Below w.heap.size w w) := Below.refl _ _
  have HL0 : Hid ((ts.take 0).any (fun t => strongT t s.tag) = false) := rfl
  clear hbx hm hO
  go_enter Tryz.func66, Tryz.ntmps66
  go_wp2_with fail
  go_loopw [5, 8] (fun _ i wr => ∃ k : Nat, k ≤ ts.length ∧ i = .int .i64 k ∧ Hid ((ts.take k).any (fun t => strongT t s.tag) = false) ∧ Hid (Below w.heap.size w wr)) (fun _ i _ => ts.length - (intOf i).toNat)
  case atStart => exact ⟨0, Nat.zero_le _, rfl, HL0, B0⟩
  clear HL0 B0
  case round =>
    obtain ⟨k, hk, rfl, hn, hB⟩ := hrel
    obtain ⟨wq, hwq⟩ : ∃ wq, wq = wr := ⟨wr, rfl⟩
    subst hwq
    by_cases hlt : k < ts.length
    · have q0 : (0 : Int) ≤ (k : Int) := by omega
      have q1 : (k : Int) < (ts.length : Int) := by omega
      obtain ⟨g, rfl⟩ : ∃ g, p = some ⟨g, 0, none⟩ := by
        rcases HO.out.2 with ⟨_, h0⟩ | ⟨g, cap', cur, h, _⟩
        · omega
        · injection h with h _ _; exact ⟨g, h⟩
      have hg := (World.ownsRow.lt HO.out g rfl).2
      have c1 : wq.cell? ⟨g, k * 2, none⟩ = some (.bool ts[k].1) := (hB.out.cell (p := ⟨g, k * 2, none⟩) hg).trans ((HO.out.cellAt (k * 2) (by omega)).trans (rowTg_get ts k hlt).1)
      have c2 : wq.cell? ⟨g, k * 2 + 1, none⟩ = some (.string (bs ts[k].2)) := (hB.out.cell (p := ⟨g, k * 2 + 1, none⟩) hg).trans ((HO.out.cellAt (k * 2 + 1) (by omega)).trans (rowTg_get ts k hlt).2)
      have CL := Lib.hid (matchC_any ts[k] bx mb rd fv s now wq ((hB.out.cell (p := ⟨bx, 0, none⟩) (World.block_lt_of_cell? w ⟨bx, 0, none⟩ HB.out)).trans HB.out) (HM.out.below hB.out HM.out.lt))
      have hts : (ts.take (k + 1)).any (fun t => strongT t s.tag) = strongT ts[k] s.tag := by
        rw [List.take_succ_eq_append_getElem hlt, List.any_append, hn.out]; simp
      have hal : strongT ts[k] s.tag = true → ts.any (fun t => strongT t s.tag) = true := fun h => List.any_eq_true.2 ⟨_, List.getElem_mem hlt, h⟩
      obtain ⟨⟨t1, t2⟩, ht⟩ := name_it ts[k]
      rw [ht.out] at c1 c2 CL hts hal
      unfold encT at CL
      simp only at c1 c2 CL
      obtain ⟨X, hX⟩ := name_it (bs t2)
      rw [hX.out] at c2 CL
      cases hr : strongT (t1, t2) s.tag with
      | true =>
        rw [hr] at CL
        have HA := Lib.hid (hal hr)
        clear hr hts hal ht hn hX
        go_wp2_with fail
        all_goals (try (exfalso; omega))
        refine CL.out.mono ?_; rintro e w5 ⟨rfl, b5⟩
        have B5 := Lib.hid (hB.out.trans (b5.mono hB.out.size))
        clear b5 CL c1 c2
        go_wp2_with fail
        all_goals (try (exfalso; omega))
        go_ret
        exact ⟨⟨_, rfl, by rw [HA.out]; exact decide_eq_true (by omega)⟩, B5.out⟩
      | false =>
        rw [hr] at CL hts
        have HN := Lib.hid hts
        clear hr hts hal ht hn hX
        go_wp2_with fail
        all_goals (try (exfalso; omega))
        refine CL.out.mono ?_; rintro e w5 ⟨rfl, b5⟩
        have B5 := Lib.hid (hB.out.trans (b5.mono hB.out.size))
        clear b5 CL c1 c2
        go_wp2_with fail
        all_goals (try (exfalso; omega))
        go_roundw
        case rel => exact ⟨k + 1, by omega, by go_num, HN, B5⟩
        case measure => simp [intOf] <;> omega
    · obtain rfl : k = ts.length := by omega
      rw [List.take_length] at hn
      go_wp2_with fail
      all_goals (try (exfalso; omega))
      go_ret
      exact ⟨⟨_, rfl, by rw [hn.out]; rfl⟩, hB.out⟩
theorem containsS_any (bx mb : Nat) (rd : Bool) (fv : Value) (s : Sta) (now : Int) (B : Nat) (v : Value) (ts : List Tg) (w : World) (hbx : w.cell? ⟨bx, 0, none⟩ = some (.pointer (some ⟨mb, 0, none⟩))) (hm : Blk w mb tM (cellsM rd fv s now)) (hO : w.ownsRow B tT 2 v ts.length (rowTg ts)) (hl : ts.length ≤ 1048576) :
    Calls Tryz.prog 44 #[v, .func (.func 45) #[] #[.pointer (some ⟨bx, 0, none⟩)]] w fun e w' => e = .returned (.bool (ts.any fun t => strongT t s.tag)) ∧ Below w.heap.size w w' := by
  have IX := Lib.hid (indexS_any bx mb rd fv s now B v ts w hbx hm hO hl)
  obtain ⟨R, hR⟩ := name_it (ts.any fun t => strongT t s.tag)
  rw [hR.out] at IX ⊢
  clear hbx hm hO
  go_enter Tryz.func44, Tryz.ntmps44
  go_wp2_with fail
  refine IX.out.mono ?_; rintro e w1 ⟨⟨n, rfl, hn⟩, b1⟩
  have B1 := Lib.hid b1
  clear b1 IX
  go_wp2_with fail
  go_ret
  exact ⟨rfl, B1.out⟩

/-- the place of the first tag that fits, or -1 -/
theorem indexA_any (bx mb : Nat) (rd : Bool) (fv : Value) (s : Sta) (now : Int) (B : Nat) (v : Value) (ts : List Tg) (w : World) (hbx : w.cell? ⟨bx, 0, none⟩ = some (.pointer (some ⟨mb, 0, none⟩))) (hm : Blk w mb tM (cellsM rd fv s now)) (hO : w.ownsRow B tT 2 v ts.length (rowTg ts)) (hl : ts.length ≤ 1048576) :
    Calls Tryz.prog 66 #[v, .func (.func 47) #[] #[.pointer (some ⟨bx, 0, none⟩)]] w fun e w' => (∃ n : Int, e = .returned (.int .i64 n) ∧ decide (0 ≤ n) = ts.any fun t => alikeT t s.tag) ∧ Below w.heap.size w w' := by
  obtain ⟨p, cap, rfl⟩ := row_slice hO
  have HB := Lib.hid hbx
  have HM := Lib.hid hm
  have HO := Lib.hid hO
  have B0 : Hid (Below w.heap.size w w) := Below.refl _ _
  have HL0 : Hid ((ts.take 0).any (fun t => alikeT t s.tag) = false) := rfl
  clear hbx hm hO
  go_enter Tryz.func66, Tryz.ntmps66
  go_wp2_with fail
  go_loopw [5, 8] (fun _ i wr => ∃ k : Nat, k ≤ ts.length ∧ i = .int .i64 k ∧ Hid ((ts.take k).any (fun t => alikeT t s.tag) = false) ∧ Hid (Below w.heap.size w wr)) (fun _ i _ => ts.length - (intOf i).toNat)
  case atStart => exact ⟨0, Nat.zero_le _, rfl, HL0, B0⟩
  clear HL0 B0
  case round =>
    obtain ⟨k, hk, rfl, hn, hB⟩ := hrel
    obtain ⟨wq, hwq⟩ : ∃ wq, wq = wr := ⟨wr, rfl⟩
    subst hwq
    by_cases hlt : k < ts.length
    · have q0 : (0 : Int) ≤ (k : Int) := by omega
      have q1 : (k : Int) < (ts.length : Int) := by omega
      obtain ⟨g, rfl⟩ : ∃ g, p = some ⟨g, 0, none⟩ := by
        rcases HO.out.2 with ⟨_, h0⟩ | ⟨g, cap', cur, h, _⟩
        · omega
        · injection h with h _ _; exact ⟨g, h⟩
      have hg := (World.ownsRow.lt HO.out g rfl).2
      have c1 : wq.cell? ⟨g, k * 2, none⟩ = some (.bool ts[k].1) := (hB.out.cell (p := ⟨g, k * 2, none⟩) hg).trans ((HO.out.cellAt (k * 2) (by omega)).trans (rowTg_get ts k hlt).1)
      have c2 : wq.cell? ⟨g, k * 2 + 1, none⟩ = some (.string (bs ts[k].2)) := (hB.out.cell (p := ⟨g, k * 2 + 1, none⟩) hg).trans ((HO.out.cellAt (k * 2 + 1) (by omega)).trans (rowTg_get ts k hlt).2)
      have CL := Lib.hid (noneC_any ts[k] bx mb rd fv s now wq ((hB.out.cell (p := ⟨bx, 0, none⟩) (World.block_lt_of_cell? w ⟨bx, 0, none⟩ HB.out)).trans HB.out) (HM.out.below hB.out HM.out.lt))
      have hts : (ts.take (k + 1)).any (fun t => alikeT t s.tag) = alikeT ts[k] s.tag := by
        rw [List.take_succ_eq_append_getElem hlt, List.any_append, hn.out]; simp
      have hal : alikeT ts[k] s.tag = true → ts.any (fun t => alikeT t s.tag) = true := fun h => List.any_eq_true.2 ⟨_, List.getElem_mem hlt, h⟩
      obtain ⟨⟨t1, t2⟩, ht⟩ := name_it ts[k]
      rw [ht.out] at c1 c2 CL hts hal
      unfold encT at CL
      simp only at c1 c2 CL
      obtain ⟨X, hX⟩ := name_it (bs t2)
      rw [hX.out] at c2 CL
      cases hr : alikeT (t1, t2) s.tag with
      | true =>
        rw [hr] at CL
        have HA := Lib.hid (hal hr)
        clear hr hts hal ht hn hX
        go_wp2_with fail
        all_goals (try (exfalso; omega))
        refine CL.out.mono ?_; rintro e w5 ⟨rfl, b5⟩
        have B5 := Lib.hid (hB.out.trans (b5.mono hB.out.size))
        clear b5 CL c1 c2
        go_wp2_with fail
        all_goals (try (exfalso; omega))
        go_ret
        exact ⟨⟨_, rfl, by rw [HA.out]; exact decide_eq_true (by omega)⟩, B5.out⟩
      | false =>
        rw [hr] at CL hts
        have HN := Lib.hid hts
        clear hr hts hal ht hn hX
        go_wp2_with fail
        all_goals (try (exfalso; omega))
        refine CL.out.mono ?_; rintro e w5 ⟨rfl, b5⟩
        have B5 := Lib.hid (hB.out.trans (b5.mono hB.out.size))
        clear b5 CL c1 c2
        go_wp2_with fail
        all_goals (try (exfalso; omega))
        go_roundw
        case rel => exact ⟨k + 1, by omega, by go_num, HN, B5⟩
        case measure => simp [intOf] <;> omega
    · obtain rfl : k = ts.length := by omega
      rw [List.take_length] at hn
      go_wp2_with fail
      all_goals (try (exfalso; omega))
      go_ret
      exact ⟨⟨_, rfl, by rw [hn.out]; rfl⟩, hB.out⟩
theorem containsA_any (bx mb : Nat) (rd : Bool) (fv : Value) (s : Sta) (now : Int) (B : Nat) (v : Value) (ts : List Tg) (w : World) (hbx : w.cell? ⟨bx, 0, none⟩ = some (.pointer (some ⟨mb, 0, none⟩))) (hm : Blk w mb tM (cellsM rd fv s now)) (hO : w.ownsRow B tT 2 v ts.length (rowTg ts)) (hl : ts.length ≤ 1048576) :
    Calls Tryz.prog 44 #[v, .func (.func 47) #[] #[.pointer (some ⟨bx, 0, none⟩)]] w fun e w' => e = .returned (.bool (ts.any fun t => alikeT t s.tag)) ∧ Below w.heap.size w w' := by
  have IX := Lib.hid (indexA_any bx mb rd fv s now B v ts w hbx hm hO hl)
  obtain ⟨R, hR⟩ := name_it (ts.any fun t => alikeT t s.tag)
  rw [hR.out] at IX ⊢
  clear hbx hm hO
  go_enter Tryz.func44, Tryz.ntmps44
  go_wp2_with fail
  refine IX.out.mono ?_; rintro e w1 ⟨⟨n, rfl, hn⟩, b1⟩
  have B1 := Lib.hid b1
  clear b1 IX
  go_wp2_with fail
  go_ret
  exact ⟨rfl, B1.out⟩
end Go.Proofs.YtjalfddedikibaaGreatDoor
