/- Contracts of tag's matter: the four steps. -/
import Derived.Test.YtjalfddedikibaaGreatDoorTagHJ
import Derived.Test.YtjalfddedikibaaGreatDoorTagDJ
namespace Go.Proofs.YtjalfddedikibaaGreatDoor
open Go Go.RowKit Go.Sort
set_option maxHeartbeats 4000000

abbrev tPM : TypeId := 55
theorem trimR_le (X : List UInt8) : (trimR X).length ≤ X.length := by
  unfold trimR; rw [List.length_reverse]
  have := dropWhile_le isBl X.reverse
  rwa [List.length_reverse] at this
theorem lsT_len : ∀ (n : Nat) (l : List UInt8), l.length ≤ n → ∀ (free : Bool) (pos : Nat) (acc ts : List Tg), lsT free pos acc l = .good ts → ts.length ≤ acc.length + l.length := by
  intro n
  induction n with
  | zero =>
    intro l hl free pos acc ts h
    obtain rfl : l = [] := List.eq_nil_of_length_eq_zero (by omega)
    rw [lsT] at h
    split at h
    · cases h
    · cases h; simp
  | succ n ih =>
    intro l hl free pos acc ts h
    cases l with
    | nil =>
      rw [lsT] at h
      split at h
      · cases h
      · cases h; simp
    | cons c r =>
      rw [List.length_cons] at hl ⊢
      rw [lsT] at h
      split at h
      · have := ih r (by omega) _ _ _ _ h; omega
      · split at h
        · have := ih r (by omega) _ _ _ _ h; omega
        · split at h
          · split at h
            · rename_i h1
              have h2 := rdT_pos _ h1
              have h3 := rdT_le (c :: r)
              have := ih _ (by rw [List.length_drop, List.length_cons]; omega) _ _ _ _ h
              rw [List.length_append, List.length_singleton, List.length_drop, List.length_cons] at this
              rw [List.length_cons] at h3
              omega
            · split at h <;> cases h
          · cases h
theorem listT_len (l : List UInt8) : (listT l).ts.length ≤ l.length := by
  unfold listT
  split
  · exact Nat.zero_le _
  · split
    · exact Nat.zero_le _
    · exact Nat.zero_le _
    · rename_i ts h
      have h1 := lsT_len _ _ (Nat.le_refl _) _ _ _ _ h
      have h2 := trim_le l
      simp only [List.length_nil] at h1
      show ts.length ≤ _
      omega
/-- is a condition of tags met? -/
def metT (V : Tg → Tg → Bool) (s : Sta) (vs : List Tx) : Bool :=
  s.there && ((listT (Lib.join vs [44, 32])).e == 0 && ((listT (Lib.join vs [44, 32])).star || (s.tagged && (listT (Lib.join vs [44, 32])).ts.any fun t => V t s.tag)))
def matchT (s : Sta) (vs : List Tx) : Int := if vs = [] then 0 else if metT strongT s vs = true then 0 else 2
def noneT (rd : Bool) (s : Sta) (vs : List Tx) : Int := if vs = [] then 0 else if metT alikeT s vs = true then (if rd = true then 1 else 2) else 0
def unmodT (s : Sta) (D : Int × Bool) (vs : List Tx) : Int := if vs = [] then (if (D.2 && (s.there && (s.timed && decide (D.1 < s.time)))) = true then 2 else 0) else 0
def modT (rd : Bool) (s : Sta) (D : Int × Bool) (vs : List Tx) : Int := if vs = [] then (if (rd && (D.2 && (s.there && (s.timed && decide (s.time ≤ D.1))))) = true then 1 else 0) else 0
theorem findV_pair (vs : List Tx) : ∃ x, findV vs = .tuple #[.string x, .bool (decide (vs ≠ []))] := by
  cases vs with
  | nil => exact ⟨_, rfl⟩
  | cons t r => exact ⟨bs t, rfl⟩

set_option maxRecDepth 100000 in
theorem match_any (mb : Nat) (rd : Bool) (v : Value) (l : List Fd) (s : Sta) (now : Int) (w : World) (hm : Blk w mb tM (cellsM rd v s now)) (hv : FdSl w v l) (hl : fSum l ≤ 1048576) :
    Calls Tryz.prog 19 #[.pointer (some ⟨mb, 0, none⟩)] w fun e w' => e = .returned (.int .i64 (matchT s (valuesF l [73, 102, 45, 77, 97, 116, 99, 104]))) ∧ Below w.heap.size w w' := by
  have b0 := (Below.refl w.heap.size w).alloc (Nat.le_refl _) (.cells #[.pointer (some ⟨mb, 0, none⟩)] tPM)
  have JO := Lib.hid (joined_any v l ⟨#[73, 102, 45, 77, 97, 116, 99, 104]⟩ (w.alloc (.cells #[.pointer (some ⟨mb, 0, none⟩)] tPM)) (hv.next b0) hl (by decide))
  have hj := Nat.le_trans (join_le (valuesF l [73, 102, 45, 77, 97, 116, 99, 104])) (values_sum l [73, 102, 45, 77, 97, 116, 99, 104])
  have e0 : L ⟨#[73, 102, 45, 77, 97, 116, 99, 104]⟩ = [73, 102, 45, 77, 97, 116, 99, 104] := rfl
  rw [e0] at JO
  obtain ⟨vs, hvs⟩ := name_it (valuesF l [73, 102, 45, 77, 97, 116, 99, 104])
  rw [hvs.out] at JO hj ⊢
  have hjl : (Lib.join vs [44, 32]).length ≤ 1048576 := Nat.le_trans hj hl
  have LS := Lib.hid (fun wx => list_any (bs (Lib.join vs [44, 32])) wx (by rw [size_bs]; omega))
  have hll := listT_len (Lib.join vs [44, 32])
  have HNE : Hid (∀ m, metT strongT s vs = m → vs ≠ [] → matchT s vs = (if m = true then 0 else 2)) := fun m h1 h2 => by unfold matchT; rw [if_neg h2, h1]
  have HEM : Hid (vs = [] → matchT s vs = 0) := fun h2 => by unfold matchT; rw [if_pos h2]
  have HMT : Hid (metT strongT s vs = (s.there && ((listT (Lib.join vs [44, 32])).e == 0 && ((listT (Lib.join vs [44, 32])).star || (s.tagged && (listT (Lib.join vs [44, 32])).ts.any fun t => strongT t s.tag))))) := rfl
  unfold joinedV at JO
  rw [L_bs] at LS
  obtain ⟨X, hX⟩ := name_it (bs (Lib.join vs [44, 32]))
  rw [hX.out] at JO LS
  obtain ⟨r, hr⟩ := name_it (listT (Lib.join vs [44, 32]))
  rw [hr.out] at LS hll HMT
  have hrl : r.ts.length ≤ 1048576 := Nat.le_trans hll hjl
  obtain ⟨R, hR⟩ := name_it (matchT s vs)
  rw [hR.out] at HNE HEM ⊢
  obtain ⟨m, hm2⟩ := name_it (metT strongT s vs)
  have HN2 : Hid (vs ≠ [] → R = (if m = true then 0 else 2)) := fun h => HNE.out m hm2.out h
  rw [hm2.out] at HMT
  obtain ⟨ne, hne⟩ := name_it (decide (vs ≠ []))
  rw [hne.out] at JO
  have HT1 : Hid (ne = true → R = (if m = true then 0 else 2)) := fun h => HN2.out (of_decide_eq_true (hne.out.trans h))
  have HT0 : Hid (ne = false → R = 0) := fun h => HEM.out (Decidable.of_not_not (of_decide_eq_false (hne.out.trans h)))
  have MA := Lib.hid (hm.alloc (.cells #[.pointer (some ⟨mb, 0, none⟩)] tPM))
  have CB : Hid ((w.alloc (.cells #[.pointer (some ⟨mb, 0, none⟩)] tPM)).cell? ⟨w.heap.size, 0, none⟩ = some (.pointer (some ⟨mb, 0, none⟩))) := (Blk.new w tPM #[.pointer (some ⟨mb, 0, none⟩)]).cell 0
  have B0 := Lib.hid b0
  have q0 : (w.alloc (.cells #[.pointer (some ⟨mb, 0, none⟩)] tPM)).cell? ⟨mb, 1, none⟩ = some v := pm_cell MA.out 1 rfl
  have q1 := CB.out
  clear hv hm hl hvs hX hr hj hjl hll hR hm2 hne HNE HEM HN2 b0 e0
  go_enter Tryz.func19, Tryz.ntmps19
  go_wp2_with fail
  refine JO.out.mono ?_; rintro e w1 ⟨rfl, b1⟩
  obtain ⟨bx, hbx⟩ := name_it w.heap.size
  rw [hbx.out] at CB ⊢
  have C1 : Hid (w1.cell? ⟨bx, 0, none⟩ = some (.pointer (some ⟨mb, 0, none⟩))) := (b1.cell (p := ⟨bx, 0, none⟩) (World.block_lt_of_cell? _ ⟨bx, 0, none⟩ CB.out)).trans CB.out
  have M1 := Lib.hid (MA.out.below b1 MA.out.lt)
  have B1 := Lib.hid (B0.out.trans (b1.mono B0.out.size))
  clear b1 JO q0 q1 CB MA B0
  cases ne with
  | false =>
    have h0 := Lib.hid (HT0.out rfl)
    clear HT0 HT1 LS C1 M1
    go_wp2_with fail
    go_ret
    exact ⟨ret_int h0.out.symm, B1.out⟩
  | true =>
    have HX := Lib.hid (HT1.out rfl)
    clear HT0 HT1
    obtain ⟨ts, star, at_, er⟩ := r
    simp only at hrl HMT
    go_wp2_with fail
    refine (LS.out w1).mono ?_; rintro e w2 ⟨⟨v2, rfl, ho⟩, b2⟩
    have O2 := Lib.hid ho
    have C2 : Hid (w2.cell? ⟨bx, 0, none⟩ = some (.pointer (some ⟨mb, 0, none⟩))) := (b2.cell (p := ⟨bx, 0, none⟩) (World.block_lt_of_cell? _ ⟨bx, 0, none⟩ C1.out)).trans C1.out
    have M2 := Lib.hid (M1.out.below b2 M1.out.lt)
    have B2 := Lib.hid (B1.out.trans (b2.mono B1.out.size))
    simp only at O2
    clear ho b2 LS C1 M1 B1
    have y0 := C2.out
    have y5 : w2.cell? ⟨mb, 5, none⟩ = some (.bool s.tagged) := pm_cell M2.out 5 rfl
    cases htg : s.tagged with
    | true =>
      rw [htg] at y5 HMT
      have CN := Lib.hid (containsS_any bx mb rd v s now _ v2 ts w2 C2.out M2.out O2.out hrl)
      obtain ⟨o, ho⟩ := name_it (ts.any fun t => strongT t s.tag)
      rw [ho.out] at CN HMT
      clear ho htg
      go_wp2_with fail
      refine CN.out.mono ?_; rintro e w3 ⟨rfl, b3⟩
      have CX : Hid (w3.cell? ⟨bx, 0, none⟩ = some (.pointer (some ⟨mb, 0, none⟩))) := (b3.cell (p := ⟨bx, 0, none⟩) (World.block_lt_of_cell? _ ⟨bx, 0, none⟩ C2.out)).trans C2.out
      have MX := Lib.hid (M2.out.below b3 M2.out.lt)
      have BZ := Lib.hid (B2.out.trans (b3.mono B2.out.size))
      clear b3 CN C2 M2 B2 O2 y0 y5 hrl
      have x0 : w3.cell? ⟨bx, 0, none⟩ = some (.pointer (some ⟨mb, 0, none⟩)) := CX.out
      have x2 : w3.cell? ⟨mb, 2, none⟩ = some (.bool s.there) := pm_cell MX.out 2 rfl
      have xr : w3.cell? ⟨mb, 0, none⟩ = some (.bool rd) := pm_cell MX.out 0 rfl
      clear MX CX
      by_cases he0 : er = 0
      · have hb0 : (er == 0) = true := by rw [he0]; rfl
        rw [hb0] at HMT
        subst he0
        clear hb0
        rcases s with ⟨sth, stg, stt, stm, std⟩
        simp only at x2 HMT
        cases sth <;> cases star <;> cases o <;> cases rd
        all_goals
          go_wp2_with fail
          go_ret
          exact ⟨ret_int (HX.out.trans (by rw [HMT.out]; rfl)).symm, BZ.out⟩
      · have hb0 : (er == 0) = false := beq_eq_false_iff_ne.2 he0
        rw [hb0] at HMT
        rcases s with ⟨sth, stg, stt, stm, std⟩
        simp only at x2 HMT
        cases sth <;> cases star <;> cases o <;> cases rd
        all_goals
          go_wp2_with fail
          go_ret
          exact ⟨ret_int (HX.out.trans (by rw [HMT.out]; rfl)).symm, BZ.out⟩
    | false =>
      rw [htg] at y5 HMT
      have CX := C2
      have MX := M2
      have BZ := B2
      obtain ⟨o, ho⟩ := name_it false
      clear ho htg C2 M2 B2 O2 hrl
      have x0 : w2.cell? ⟨bx, 0, none⟩ = some (.pointer (some ⟨mb, 0, none⟩)) := CX.out
      have x2 : w2.cell? ⟨mb, 2, none⟩ = some (.bool s.there) := pm_cell MX.out 2 rfl
      have xr : w2.cell? ⟨mb, 0, none⟩ = some (.bool rd) := pm_cell MX.out 0 rfl
      clear MX CX
      by_cases he0 : er = 0
      · have hb0 : (er == 0) = true := by rw [he0]; rfl
        rw [hb0] at HMT
        subst he0
        clear hb0
        rcases s with ⟨sth, stg, stt, stm, std⟩
        simp only at x2 HMT
        cases sth <;> cases star <;> cases o <;> cases rd
        all_goals
          go_wp2_with fail
          go_ret
          exact ⟨ret_int (HX.out.trans (by rw [HMT.out]; rfl)).symm, BZ.out⟩
      · have hb0 : (er == 0) = false := beq_eq_false_iff_ne.2 he0
        rw [hb0] at HMT
        rcases s with ⟨sth, stg, stt, stm, std⟩
        simp only at x2 HMT
        cases sth <;> cases star <;> cases o <;> cases rd
        all_goals
          go_wp2_with fail
          go_ret
          exact ⟨ret_int (HX.out.trans (by rw [HMT.out]; rfl)).symm, BZ.out⟩

set_option maxRecDepth 100000 in
theorem none_any (mb : Nat) (rd : Bool) (v : Value) (l : List Fd) (s : Sta) (now : Int) (w : World) (hm : Blk w mb tM (cellsM rd v s now)) (hv : FdSl w v l) (hl : fSum l ≤ 1048576) :
    Calls Tryz.prog 21 #[.pointer (some ⟨mb, 0, none⟩)] w fun e w' => e = .returned (.int .i64 ((noneT rd) s (valuesF l [73, 102, 45, 78, 111, 110, 101, 45, 77, 97, 116, 99, 104]))) ∧ Below w.heap.size w w' := by
  have b0 := (Below.refl w.heap.size w).alloc (Nat.le_refl _) (.cells #[.pointer (some ⟨mb, 0, none⟩)] tPM)
  have JO := Lib.hid (joined_any v l ⟨#[73, 102, 45, 78, 111, 110, 101, 45, 77, 97, 116, 99, 104]⟩ (w.alloc (.cells #[.pointer (some ⟨mb, 0, none⟩)] tPM)) (hv.next b0) hl (by decide))
  have hj := Nat.le_trans (join_le (valuesF l [73, 102, 45, 78, 111, 110, 101, 45, 77, 97, 116, 99, 104])) (values_sum l [73, 102, 45, 78, 111, 110, 101, 45, 77, 97, 116, 99, 104])
  have e0 : L ⟨#[73, 102, 45, 78, 111, 110, 101, 45, 77, 97, 116, 99, 104]⟩ = [73, 102, 45, 78, 111, 110, 101, 45, 77, 97, 116, 99, 104] := rfl
  rw [e0] at JO
  obtain ⟨vs, hvs⟩ := name_it (valuesF l [73, 102, 45, 78, 111, 110, 101, 45, 77, 97, 116, 99, 104])
  rw [hvs.out] at JO hj ⊢
  have hjl : (Lib.join vs [44, 32]).length ≤ 1048576 := Nat.le_trans hj hl
  have LS := Lib.hid (fun wx => list_any (bs (Lib.join vs [44, 32])) wx (by rw [size_bs]; omega))
  have hll := listT_len (Lib.join vs [44, 32])
  have HNE : Hid (∀ m, metT alikeT s vs = m → vs ≠ [] → (noneT rd) s vs = (if m = true then (if rd = true then 1 else 2) else 0)) := fun m h1 h2 => by unfold noneT; rw [if_neg h2, h1]
  have HEM : Hid (vs = [] → (noneT rd) s vs = 0) := fun h2 => by unfold noneT; rw [if_pos h2]
  have HMT : Hid (metT alikeT s vs = (s.there && ((listT (Lib.join vs [44, 32])).e == 0 && ((listT (Lib.join vs [44, 32])).star || (s.tagged && (listT (Lib.join vs [44, 32])).ts.any fun t => alikeT t s.tag))))) := rfl
  unfold joinedV at JO
  rw [L_bs] at LS
  obtain ⟨X, hX⟩ := name_it (bs (Lib.join vs [44, 32]))
  rw [hX.out] at JO LS
  obtain ⟨r, hr⟩ := name_it (listT (Lib.join vs [44, 32]))
  rw [hr.out] at LS hll HMT
  have hrl : r.ts.length ≤ 1048576 := Nat.le_trans hll hjl
  obtain ⟨R, hR⟩ := name_it ((noneT rd) s vs)
  rw [hR.out] at HNE HEM ⊢
  obtain ⟨m, hm2⟩ := name_it (metT alikeT s vs)
  have HN2 : Hid (vs ≠ [] → R = (if m = true then (if rd = true then 1 else 2) else 0)) := fun h => HNE.out m hm2.out h
  rw [hm2.out] at HMT
  obtain ⟨ne, hne⟩ := name_it (decide (vs ≠ []))
  rw [hne.out] at JO
  have HT1 : Hid (ne = true → R = (if m = true then (if rd = true then 1 else 2) else 0)) := fun h => HN2.out (of_decide_eq_true (hne.out.trans h))
  have HT0 : Hid (ne = false → R = 0) := fun h => HEM.out (Decidable.of_not_not (of_decide_eq_false (hne.out.trans h)))
  have MA := Lib.hid (hm.alloc (.cells #[.pointer (some ⟨mb, 0, none⟩)] tPM))
  have CB : Hid ((w.alloc (.cells #[.pointer (some ⟨mb, 0, none⟩)] tPM)).cell? ⟨w.heap.size, 0, none⟩ = some (.pointer (some ⟨mb, 0, none⟩))) := (Blk.new w tPM #[.pointer (some ⟨mb, 0, none⟩)]).cell 0
  have B0 := Lib.hid b0
  have q0 : (w.alloc (.cells #[.pointer (some ⟨mb, 0, none⟩)] tPM)).cell? ⟨mb, 1, none⟩ = some v := pm_cell MA.out 1 rfl
  have q1 := CB.out
  clear hv hm hl hvs hX hr hj hjl hll hR hm2 hne HNE HEM HN2 b0 e0
  go_enter Tryz.func21, Tryz.ntmps21
  go_wp2_with fail
  refine JO.out.mono ?_; rintro e w1 ⟨rfl, b1⟩
  obtain ⟨bx, hbx⟩ := name_it w.heap.size
  rw [hbx.out] at CB ⊢
  have C1 : Hid (w1.cell? ⟨bx, 0, none⟩ = some (.pointer (some ⟨mb, 0, none⟩))) := (b1.cell (p := ⟨bx, 0, none⟩) (World.block_lt_of_cell? _ ⟨bx, 0, none⟩ CB.out)).trans CB.out
  have M1 := Lib.hid (MA.out.below b1 MA.out.lt)
  have B1 := Lib.hid (B0.out.trans (b1.mono B0.out.size))
  clear b1 JO q0 q1 CB MA B0
  cases ne with
  | false =>
    have h0 := Lib.hid (HT0.out rfl)
    clear HT0 HT1 LS C1 M1
    go_wp2_with fail
    go_ret
    exact ⟨ret_int h0.out.symm, B1.out⟩
  | true =>
    have HX := Lib.hid (HT1.out rfl)
    clear HT0 HT1
    obtain ⟨ts, star, at_, er⟩ := r
    simp only at hrl HMT
    go_wp2_with fail
    refine (LS.out w1).mono ?_; rintro e w2 ⟨⟨v2, rfl, ho⟩, b2⟩
    have O2 := Lib.hid ho
    have C2 : Hid (w2.cell? ⟨bx, 0, none⟩ = some (.pointer (some ⟨mb, 0, none⟩))) := (b2.cell (p := ⟨bx, 0, none⟩) (World.block_lt_of_cell? _ ⟨bx, 0, none⟩ C1.out)).trans C1.out
    have M2 := Lib.hid (M1.out.below b2 M1.out.lt)
    have B2 := Lib.hid (B1.out.trans (b2.mono B1.out.size))
    simp only at O2
    clear ho b2 LS C1 M1 B1
    have y0 := C2.out
    have y5 : w2.cell? ⟨mb, 5, none⟩ = some (.bool s.tagged) := pm_cell M2.out 5 rfl
    cases htg : s.tagged with
    | true =>
      rw [htg] at y5 HMT
      have CN := Lib.hid (containsA_any bx mb rd v s now _ v2 ts w2 C2.out M2.out O2.out hrl)
      obtain ⟨o, ho⟩ := name_it (ts.any fun t => alikeT t s.tag)
      rw [ho.out] at CN HMT
      clear ho htg
      go_wp2_with fail
      refine CN.out.mono ?_; rintro e w3 ⟨rfl, b3⟩
      have CX : Hid (w3.cell? ⟨bx, 0, none⟩ = some (.pointer (some ⟨mb, 0, none⟩))) := (b3.cell (p := ⟨bx, 0, none⟩) (World.block_lt_of_cell? _ ⟨bx, 0, none⟩ C2.out)).trans C2.out
      have MX := Lib.hid (M2.out.below b3 M2.out.lt)
      have BZ := Lib.hid (B2.out.trans (b3.mono B2.out.size))
      clear b3 CN C2 M2 B2 O2 y0 y5 hrl
      have x0 : w3.cell? ⟨bx, 0, none⟩ = some (.pointer (some ⟨mb, 0, none⟩)) := CX.out
      have x2 : w3.cell? ⟨mb, 2, none⟩ = some (.bool s.there) := pm_cell MX.out 2 rfl
      have xr : w3.cell? ⟨mb, 0, none⟩ = some (.bool rd) := pm_cell MX.out 0 rfl
      clear MX CX
      by_cases he0 : er = 0
      · have hb0 : (er == 0) = true := by rw [he0]; rfl
        rw [hb0] at HMT
        subst he0
        clear hb0
        rcases s with ⟨sth, stg, stt, stm, std⟩
        simp only at x2 HMT
        cases sth <;> cases star <;> cases o <;> cases rd
        all_goals
          go_wp2_with fail
          go_ret
          exact ⟨ret_int (HX.out.trans (by rw [HMT.out]; rfl)).symm, BZ.out⟩
      · have hb0 : (er == 0) = false := beq_eq_false_iff_ne.2 he0
        rw [hb0] at HMT
        rcases s with ⟨sth, stg, stt, stm, std⟩
        simp only at x2 HMT
        cases sth <;> cases star <;> cases o <;> cases rd
        all_goals
          go_wp2_with fail
          go_ret
          exact ⟨ret_int (HX.out.trans (by rw [HMT.out]; rfl)).symm, BZ.out⟩
    | false =>
      rw [htg] at y5 HMT
      have CX := C2
      have MX := M2
      have BZ := B2
      obtain ⟨o, ho⟩ := name_it false
      clear ho htg C2 M2 B2 O2 hrl
      have x0 : w2.cell? ⟨bx, 0, none⟩ = some (.pointer (some ⟨mb, 0, none⟩)) := CX.out
      have x2 : w2.cell? ⟨mb, 2, none⟩ = some (.bool s.there) := pm_cell MX.out 2 rfl
      have xr : w2.cell? ⟨mb, 0, none⟩ = some (.bool rd) := pm_cell MX.out 0 rfl
      clear MX CX
      by_cases he0 : er = 0
      · have hb0 : (er == 0) = true := by rw [he0]; rfl
        rw [hb0] at HMT
        subst he0
        clear hb0
        rcases s with ⟨sth, stg, stt, stm, std⟩
        simp only at x2 HMT
        cases sth <;> cases star <;> cases o <;> cases rd
        all_goals
          go_wp2_with fail
          go_ret
          exact ⟨ret_int (HX.out.trans (by rw [HMT.out]; rfl)).symm, BZ.out⟩
      · have hb0 : (er == 0) = false := beq_eq_false_iff_ne.2 he0
        rw [hb0] at HMT
        rcases s with ⟨sth, stg, stt, stm, std⟩
        simp only at x2 HMT
        cases sth <;> cases star <;> cases o <;> cases rd
        all_goals
          go_wp2_with fail
          go_ret
          exact ⟨ret_int (HX.out.trans (by rw [HMT.out]; rfl)).symm, BZ.out⟩
end Go.Proofs.YtjalfddedikibaaGreatDoor
