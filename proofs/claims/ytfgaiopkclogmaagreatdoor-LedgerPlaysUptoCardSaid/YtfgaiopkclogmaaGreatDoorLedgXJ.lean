/- Contract of the document's ledger Parse: the entry of a line. Printed by gen_rparse28.py. -/
import Derived.Test.YtfgaiopkclogmaaGreatDoorLedgWJ
import Derived.Test.YtfgaiopkclogmaaGreatDoorLedgTJ
import Derived.Test.YtfgaiopkclogmaaGreatDoorLedgJJ
namespace Go.Proofs.YtfgaiopkclogmaaGreatDoor
open Go Go.RowKit
set_option maxHeartbeats 8000000

abbrev tR : TypeId := 36
/-- where the document's Parse stands: the entry so far, the result's variable -/
structure RS (w0 W : World) (e : En) : Prop where
  ent : Blk W (w0.heap.size + 1) tR (cellsE e)
  box : Blk W w0.heap.size tR (cellsE noE)
  below : Below w0.heap.size w0 W
theorem RS.on {w0 W W' : World} {e : En} (h : RS w0 W e) (hb : Below W.heap.size W W') : RS w0 W' e := ⟨h.ent.below hb h.ent.lt, h.box.below hb h.box.lt, h.below.trans (hb.mono h.below.size)⟩
theorem RS.store {w0 W : World} {e : En} (h : RS w0 W e) (i : Nat) (v : Value) (e' : En) (he : (cellsE e).setIfInBounds i v = cellsE e') : RS w0 (W.setCell ⟨w0.heap.size + 1, i, none⟩ v) e' where
  ent := he ▸ h.ent.set i v
  box := h.box.just (Just.set (w0.heap.size + 1) i W v) (by omega)
  below := h.below.trans ((Just.set (w0.heap.size + 1) i W v).below (by omega) h.below.size)
theorem RS.box8 {w0 W : World} {e : En} (h : RS w0 W e) (v0 v1 v2 v3 v4 v5 v6 v7 : Value) : Blk ((((((((W.setCell ⟨w0.heap.size, 0, none⟩ v0).setCell ⟨w0.heap.size, 1, none⟩ v1).setCell ⟨w0.heap.size, 2, none⟩ v2).setCell ⟨w0.heap.size, 3, none⟩ v3).setCell ⟨w0.heap.size, 4, none⟩ v4).setCell ⟨w0.heap.size, 5, none⟩ v5).setCell ⟨w0.heap.size, 6, none⟩ v6).setCell ⟨w0.heap.size, 7, none⟩ v7) w0.heap.size tR #[v0, v1, v2, v3, v4, v5, v6, v7] ∧ Below w0.heap.size w0 ((((((((W.setCell ⟨w0.heap.size, 0, none⟩ v0).setCell ⟨w0.heap.size, 1, none⟩ v1).setCell ⟨w0.heap.size, 2, none⟩ v2).setCell ⟨w0.heap.size, 3, none⟩ v3).setCell ⟨w0.heap.size, 4, none⟩ v4).setCell ⟨w0.heap.size, 5, none⟩ v5).setCell ⟨w0.heap.size, 6, none⟩ v6).setCell ⟨w0.heap.size, 7, none⟩ v7) := by
  refine ⟨(((((((h.box.set 0 v0).set 1 v1).set 2 v2).set 3 v3).set 4 v4).set 5 v5).set 6 v6).set 7 v7, ?_⟩
  exact h.below.trans (((((((((Below.refl w0.heap.size W).setCell (p := ⟨w0.heap.size, 0, none⟩) (Nat.le_refl _) v0).setCell (p := ⟨w0.heap.size, 1, none⟩) (Nat.le_refl _) v1).setCell (p := ⟨w0.heap.size, 2, none⟩) (Nat.le_refl _) v2).setCell (p := ⟨w0.heap.size, 3, none⟩) (Nat.le_refl _) v3).setCell (p := ⟨w0.heap.size, 4, none⟩) (Nat.le_refl _) v4).setCell (p := ⟨w0.heap.size, 5, none⟩) (Nat.le_refl _) v5).setCell (p := ⟨w0.heap.size, 6, none⟩) (Nat.le_refl _) v6).setCell (p := ⟨w0.heap.size, 7, none⟩) (Nat.le_refl _) v7)
theorem RS.start (w : World) : RS w ((w.alloc (.cells #[.string ⟨#[]⟩, .int .i64 0, .int .i64 0, .string ⟨#[]⟩, .string ⟨#[]⟩, .int .i64 0, .int .i64 0, .int .i64 0] tR)).alloc (.cells #[.string ⟨#[]⟩, .int .i64 0, .int .i64 0, .string ⟨#[]⟩, .string ⟨#[]⟩, .int .i64 0, .int .i64 0, .int .i64 0] tR)) noE := by
  have z1 : (w.alloc (.cells #[.string ⟨#[]⟩, .int .i64 0, .int .i64 0, .string ⟨#[]⟩, .string ⟨#[]⟩, .int .i64 0, .int .i64 0, .int .i64 0] tR)).heap.size = w.heap.size + 1 := Array.size_push ..
  have k2 := Blk.new (w.alloc (.cells #[.string ⟨#[]⟩, .int .i64 0, .int .i64 0, .string ⟨#[]⟩, .string ⟨#[]⟩, .int .i64 0, .int .i64 0, .int .i64 0] tR)) tR (cellsE noE)
  rw [z1] at k2
  exact ⟨k2, (Blk.new w tR (cellsE noE)).alloc _, ((Below.refl _ _).alloc (Nat.le_refl _) _).alloc (by rw [z1]; omega) _⟩
theorem parV_bad {S : List UInt8} {n : Nat} (h : parseEnd S = (n, true)) : parV S = .tuple #[noS, .int .i64 (n : Nat), .int .i64 280] := by
  unfold parV parsesB; rw [h]; rfl
theorem rnumP_any (s : ByteArray) (n : Nat) (w : World) (hn : n ≤ s.size) (hs : s.size ≤ 1073741824) (v : Int) (m : Nat) (hq : numP (L s) n = (v, m)) :
    Calls Tryz.prog 39 #[.string s, .int .i64 n] w fun e w' => e = .returned (.tuple #[.int .i64 v, .int .i64 (m : Nat), .bool (decide (n < m))]) ∧ Below w.heap.size w w' := by
  refine (rnumber_any s n w hn hs).mono ?_
  rintro e w' ⟨he, hb⟩
  refine ⟨?_, hb⟩
  have h1 : (numD ((L s).drop n) 0 0).1 = v := congrArg Prod.fst hq
  have h2 : n + (numD ((L s).drop n) 0 0).2 = m := congrArg Prod.snd hq
  rw [he, h1, h2]
  have h3 : decide (0 < (numD ((L s).drop n) 0 0).2) = decide (n < m) := by rw [Bool.eq_iff_iff, decide_eq_true_eq, decide_eq_true_eq]; omega
  rw [h3]
theorem rrunnameS (s : ByteArray) (n : Nat) (w : World) (hn : n ≤ s.size) (hs : s.size ≤ 1073741824) (m : Nat) (b : Bool) (hq : runS (L s) nameB 64 (n, false) = (m, b)) :
    Calls Tryz.prog 37 #[.string s, .int .i64 n, .int .i64 64, .bool false] w fun e w' => e = .returned (.tuple #[.int .i64 (m : Nat), .bool (!b)]) ∧ Below w.heap.size w w' := by
  refine (rrunname_any s n w hn hs).mono ?_
  rintro e w' ⟨he, hb⟩
  refine ⟨?_, hb⟩
  unfold runS at hq
  rw [if_neg nf] at hq
  injection hq with h1 h2
  have h1 : n + runK nameB 64 ((L s).drop n) = m := h1
  have h2 : decide (runK nameB 64 ((L s).drop n) = 0) = b := h2
  rw [he, h1, ← h2]
  have h3 : decide (0 < runK nameB 64 ((L s).drop n)) = !decide (runK nameB 64 ((L s).drop n) = 0) := by
    by_cases h : runK nameB 64 ((L s).drop n) = 0
    · rw [h]; rfl
    · rw [decide_eq_true (by omega), decide_eq_false h]; rfl
  rw [h3]
theorem rrunsignS (s : ByteArray) (n : Nat) (w : World) (hn : n ≤ s.size) (hs : s.size ≤ 1073741824) (m : Nat) (b : Bool) (hq : runS (L s) signB 24 (n, false) = (m, b)) :
    Calls Tryz.prog 37 #[.string s, .int .i64 n, .int .i64 24, .bool true] w fun e w' => e = .returned (.tuple #[.int .i64 (m : Nat), .bool (!b)]) ∧ Below w.heap.size w w' := by
  refine (rrunsign_any s n w hn hs).mono ?_
  rintro e w' ⟨he, hb⟩
  refine ⟨?_, hb⟩
  unfold runS at hq
  rw [if_neg nf] at hq
  injection hq with h1 h2
  have h1 : n + runK signB 24 ((L s).drop n) = m := h1
  have h2 : decide (runK signB 24 ((L s).drop n) = 0) = b := h2
  rw [he, h1, ← h2]
  have h3 : decide (0 < runK signB 24 ((L s).drop n)) = !decide (runK signB 24 ((L s).drop n) = 0) := by
    by_cases h : runK signB 24 ((L s).drop n) = 0
    · rw [h]; rfl
    · rw [decide_eq_true (by omega), decide_eq_false h]; rfl
  rw [h3]
theorem rtextS (s text : ByteArray) (n : Nat) (w : World) (hn : n ≤ s.size) (hs : s.size ≤ 1073741824) (ht : text.size ≤ 1000) (m : Nat) (b : Bool) (hq : litS (L s) (L text) (n, false) = (m, b)) :
    Calls Tryz.prog 38 #[.string s, .int .i64 n, .string text] w fun e w' => e = .returned (.tuple #[.int .i64 (m : Nat), .bool (!b)]) ∧ Below w.heap.size w w' := by
  have := rtext_any s text n w hn hs ht
  rw [hq] at this
  exact this
set_option maxRecDepth 100000 in
theorem rparse_any (s : ByteArray) (w : World) (hs : s.size ≤ 1073741824) :
    Calls Tryz.prog 16 #[.string s] w fun e w' => e = .returned (parV (L s)) ∧ Below w.heap.size w w' := by
  obtain ⟨VR, hVR⟩ := name_it (parV (L s))
  rw [hVR.out]
  have R0 := Lib.hid (RS.start w)
  obtain ⟨⟨nA, bA⟩, hA⟩ := name_it (pA (L s))
  have lA := le_A (L s)
  rw [hA.out, L_length] at lA
  simp only [] at lA
  have CA := Lib.hid (fun wx => rrunnameS s 0 wx (Nat.zero_le _) hs nA bA hA.out)
  have qA : (nA : Int) ≤ (s.size : Int) := by omega
  have HSZ := Lib.hid (fun (W : World) => (rfl : W.heap.size = W.heap.size))
  go_enter Tryz.func16, Tryz.ntmps16
  go_wp2_with fail
  refine (CA.out _).mono ?_
  rintro e w1 ⟨rfl, b1⟩
  have R1 := Lib.hid (R0.out.on b1)
  clear b1 R0 CA
  cases bA with
  | true =>
    have HV : Hid (VR = .tuple #[noS, .int .i64 (nA : Nat), .int .i64 280]) := by rw [← hVR.out]; exact parV_bad ((end_A (by rw [hA.out])).trans hA.out)
    have z0 : w1.cell? ⟨w.heap.size, 0, none⟩ = some (.string ⟨#[]⟩) := R1.out.box.cell 0
    have y0 : w1.frozen? ⟨w.heap.size, 0, none⟩ = false := R1.out.box.frozen 0
    have z1 : w1.cell? ⟨w.heap.size, 1, none⟩ = some (.int .i64 0) := R1.out.box.cell 1
    have y1 : w1.frozen? ⟨w.heap.size, 1, none⟩ = false := R1.out.box.frozen 1
    have z2 : w1.cell? ⟨w.heap.size, 2, none⟩ = some (.int .i64 0) := R1.out.box.cell 2
    have y2 : w1.frozen? ⟨w.heap.size, 2, none⟩ = false := R1.out.box.frozen 2
    have z3 : w1.cell? ⟨w.heap.size, 3, none⟩ = some (.string ⟨#[]⟩) := R1.out.box.cell 3
    have y3 : w1.frozen? ⟨w.heap.size, 3, none⟩ = false := R1.out.box.frozen 3
    have z4 : w1.cell? ⟨w.heap.size, 4, none⟩ = some (.string ⟨#[]⟩) := R1.out.box.cell 4
    have y4 : w1.frozen? ⟨w.heap.size, 4, none⟩ = false := R1.out.box.frozen 4
    have z5 : w1.cell? ⟨w.heap.size, 5, none⟩ = some (.int .i64 0) := R1.out.box.cell 5
    have y5 : w1.frozen? ⟨w.heap.size, 5, none⟩ = false := R1.out.box.frozen 5
    have z6 : w1.cell? ⟨w.heap.size, 6, none⟩ = some (.int .i64 0) := R1.out.box.cell 6
    have y6 : w1.frozen? ⟨w.heap.size, 6, none⟩ = false := R1.out.box.frozen 6
    have z7 : w1.cell? ⟨w.heap.size, 7, none⟩ = some (.int .i64 0) := R1.out.box.cell 7
    have y7 : w1.frozen? ⟨w.heap.size, 7, none⟩ = false := R1.out.box.frozen 7
    go_wp2_with fail
    all_goals (try (exfalso; omega))
    obtain ⟨K9, B9⟩ := R1.out.box8 (.string ⟨#[]⟩) (.int .i64 0) (.int .i64 0) (.string ⟨#[]⟩) (.string ⟨#[]⟩) (.int .i64 0) (.int .i64 0) (.int .i64 0)
    obtain ⟨w9, hw9⟩ := name_it (((((((((w1.setCell ⟨w.heap.size, 0, none⟩ (.string ⟨#[]⟩)).setCell ⟨w.heap.size, 1, none⟩ (.int .i64 0)).setCell ⟨w.heap.size, 2, none⟩ (.int .i64 0)).setCell ⟨w.heap.size, 3, none⟩ (.string ⟨#[]⟩)).setCell ⟨w.heap.size, 4, none⟩ (.string ⟨#[]⟩)).setCell ⟨w.heap.size, 5, none⟩ (.int .i64 0)).setCell ⟨w.heap.size, 6, none⟩ (.int .i64 0)).setCell ⟨w.heap.size, 7, none⟩ (.int .i64 0)))
    rw [hw9.out] at K9 B9
    rw [hw9.out]
    clear z0 y0 z1 y1 z2 y2 z3 y3 z4 y4 z5 y5 z6 y6 z7 y7
    have f0 : w9.cell? ⟨w.heap.size, 0, none⟩ = some (.string ⟨#[]⟩) := K9.cell 0
    have f1 : w9.cell? ⟨w.heap.size, 1, none⟩ = some (.int .i64 0) := K9.cell 1
    have f2 : w9.cell? ⟨w.heap.size, 2, none⟩ = some (.int .i64 0) := K9.cell 2
    have f3 : w9.cell? ⟨w.heap.size, 3, none⟩ = some (.string ⟨#[]⟩) := K9.cell 3
    have f4 : w9.cell? ⟨w.heap.size, 4, none⟩ = some (.string ⟨#[]⟩) := K9.cell 4
    have f5 : w9.cell? ⟨w.heap.size, 5, none⟩ = some (.int .i64 0) := K9.cell 5
    have f6 : w9.cell? ⟨w.heap.size, 6, none⟩ = some (.int .i64 0) := K9.cell 6
    have f7 : w9.cell? ⟨w.heap.size, 7, none⟩ = some (.int .i64 0) := K9.cell 7
    refine bodyPost_ret (v := .tuple #[noS, .int .i64 (nA : Nat), .int .i64 280]) (by simp [results, Tryz.results16, go_sem, noS, f0, f1, f2, f3, f4, f5, f6, f7]) rfl ?_
    rw [HV.out]
    exact ⟨rfl, B9⟩
  | false =>
    have c : w1.cell? ⟨w.heap.size + 1, 0, none⟩ = some (.string ⟨#[]⟩) := R1.out.ent.cell 0
    have fz := R1.out.ent.frozen 0
    have T1 : Hid (RS w (w1.setCell ⟨w.heap.size + 1, 0, none⟩ (.string (s.extract 0 nA))) ⟨((L s).take nA), [], [], 0, 0, 0, 0, 0⟩) := R1.out.store 0 (.string (s.extract 0 nA)) _ (by rw [ext_take]; rfl)
    go_wp2_with fail
    obtain ⟨v1, hv1⟩ := name_it (w1.setCell ⟨w.heap.size + 1, 0, none⟩ (.string (s.extract 0 nA)))
    rw [hv1.out] at T1
    have hsz : w1.heap.size = v1.heap.size := by rw [← hv1.out]; simp
    obtain ⟨hb, hhb⟩ : ∃ hb, hb = v1.heap.size := ⟨_, rfl⟩
    rw [← hhb] at hsz
    have hne : hb ≠ w.heap.size + 1 := by have := T1.out.ent.lt; omega
    have RH := Lib.hid (T1.out.on ((Below.refl _ v1).alloc (Nat.le_refl _) (.cells #[.string ⟨#[32, 99, 111, 110, 110, 61]⟩, .string ⟨#[32, 110, 117, 109, 98, 101, 114, 61]⟩, .string ⟨#[32, 116, 105, 99, 107, 61]⟩] 9)))
    have HH : Hid (Blk (v1.alloc (.cells #[.string ⟨#[32, 99, 111, 110, 110, 61]⟩, .string ⟨#[32, 110, 117, 109, 98, 101, 114, 61]⟩, .string ⟨#[32, 116, 105, 99, 107, 61]⟩] 9)) hb 9 #[.string ⟨#[32, 99, 111, 110, 110, 61]⟩, .string ⟨#[32, 110, 117, 109, 98, 101, 114, 61]⟩, .string ⟨#[32, 116, 105, 99, 107, 61]⟩]) := by rw [hhb]; exact Blk.new _ _ _
    rw [hv1.out]
    rw [hsz]
    obtain ⟨wh, hwh⟩ := name_it (v1.alloc (.cells #[.string ⟨#[32, 99, 111, 110, 110, 61]⟩, .string ⟨#[32, 110, 117, 109, 98, 101, 114, 61]⟩, .string ⟨#[32, 116, 105, 99, 107, 61]⟩] 9))
    rw [hwh.out] at RH HH
    rw [hwh.out]
    clear c fz R1 hv1 T1 hhb hsz hwh HSZ
    refine wp_loop_rounds 4 ?_
    rw [rounds_succ]
    have hc : wh.cell? ⟨hb, 0, none⟩ = some (.string ⟨#[32, 99, 111, 110, 110, 61]⟩) := HH.out.cell 0
    go_wp2_with fail
    obtain ⟨⟨nB, bB⟩, hB⟩ := name_it (pB (L s))
    have lB := le_B (L s)
    rw [hB.out, L_length] at lB
    simp only [] at lB
    have CB := Lib.hid (fun wx => rtextS s ⟨#[32, 99, 111, 110, 110, 61]⟩ nA wx lA hs (by decide) nB bB (by have h := hB.out; unfold pB at h; rw [hA.out] at h; exact h))
    refine (CB.out _).mono ?_
    rintro e w2 ⟨rfl, b2⟩
    have R2 := Lib.hid (RH.out.on b2)
    have H2 := Lib.hid (HH.out.below b2 HH.out.lt)
    clear b2 RH CB hc HH
    cases bB with
    | true =>
      have HV : Hid (VR = .tuple #[noS, .int .i64 (nB : Nat), .int .i64 280]) := by rw [← hVR.out]; exact parV_bad ((end_B (by rw [hB.out])).trans hB.out)
      have z0 : w2.cell? ⟨w.heap.size, 0, none⟩ = some (.string ⟨#[]⟩) := R2.out.box.cell 0
      have y0 : w2.frozen? ⟨w.heap.size, 0, none⟩ = false := R2.out.box.frozen 0
      have z1 : w2.cell? ⟨w.heap.size, 1, none⟩ = some (.int .i64 0) := R2.out.box.cell 1
      have y1 : w2.frozen? ⟨w.heap.size, 1, none⟩ = false := R2.out.box.frozen 1
      have z2 : w2.cell? ⟨w.heap.size, 2, none⟩ = some (.int .i64 0) := R2.out.box.cell 2
      have y2 : w2.frozen? ⟨w.heap.size, 2, none⟩ = false := R2.out.box.frozen 2
      have z3 : w2.cell? ⟨w.heap.size, 3, none⟩ = some (.string ⟨#[]⟩) := R2.out.box.cell 3
      have y3 : w2.frozen? ⟨w.heap.size, 3, none⟩ = false := R2.out.box.frozen 3
      have z4 : w2.cell? ⟨w.heap.size, 4, none⟩ = some (.string ⟨#[]⟩) := R2.out.box.cell 4
      have y4 : w2.frozen? ⟨w.heap.size, 4, none⟩ = false := R2.out.box.frozen 4
      have z5 : w2.cell? ⟨w.heap.size, 5, none⟩ = some (.int .i64 0) := R2.out.box.cell 5
      have y5 : w2.frozen? ⟨w.heap.size, 5, none⟩ = false := R2.out.box.frozen 5
      have z6 : w2.cell? ⟨w.heap.size, 6, none⟩ = some (.int .i64 0) := R2.out.box.cell 6
      have y6 : w2.frozen? ⟨w.heap.size, 6, none⟩ = false := R2.out.box.frozen 6
      have z7 : w2.cell? ⟨w.heap.size, 7, none⟩ = some (.int .i64 0) := R2.out.box.cell 7
      have y7 : w2.frozen? ⟨w.heap.size, 7, none⟩ = false := R2.out.box.frozen 7
      go_wp2_with fail
      all_goals (try (exfalso; omega))
      obtain ⟨K9, B9⟩ := R2.out.box8 (.string ⟨#[]⟩) (.int .i64 0) (.int .i64 0) (.string ⟨#[]⟩) (.string ⟨#[]⟩) (.int .i64 0) (.int .i64 0) (.int .i64 0)
      obtain ⟨w9, hw9⟩ := name_it (((((((((w2.setCell ⟨w.heap.size, 0, none⟩ (.string ⟨#[]⟩)).setCell ⟨w.heap.size, 1, none⟩ (.int .i64 0)).setCell ⟨w.heap.size, 2, none⟩ (.int .i64 0)).setCell ⟨w.heap.size, 3, none⟩ (.string ⟨#[]⟩)).setCell ⟨w.heap.size, 4, none⟩ (.string ⟨#[]⟩)).setCell ⟨w.heap.size, 5, none⟩ (.int .i64 0)).setCell ⟨w.heap.size, 6, none⟩ (.int .i64 0)).setCell ⟨w.heap.size, 7, none⟩ (.int .i64 0)))
      rw [hw9.out] at K9 B9
      rw [hw9.out]
      clear z0 y0 z1 y1 z2 y2 z3 y3 z4 y4 z5 y5 z6 y6 z7 y7
      have f0 : w9.cell? ⟨w.heap.size, 0, none⟩ = some (.string ⟨#[]⟩) := K9.cell 0
      have f1 : w9.cell? ⟨w.heap.size, 1, none⟩ = some (.int .i64 0) := K9.cell 1
      have f2 : w9.cell? ⟨w.heap.size, 2, none⟩ = some (.int .i64 0) := K9.cell 2
      have f3 : w9.cell? ⟨w.heap.size, 3, none⟩ = some (.string ⟨#[]⟩) := K9.cell 3
      have f4 : w9.cell? ⟨w.heap.size, 4, none⟩ = some (.string ⟨#[]⟩) := K9.cell 4
      have f5 : w9.cell? ⟨w.heap.size, 5, none⟩ = some (.int .i64 0) := K9.cell 5
      have f6 : w9.cell? ⟨w.heap.size, 6, none⟩ = some (.int .i64 0) := K9.cell 6
      have f7 : w9.cell? ⟨w.heap.size, 7, none⟩ = some (.int .i64 0) := K9.cell 7
      refine bodyPost_ret (v := .tuple #[noS, .int .i64 (nB : Nat), .int .i64 280]) (by simp [results, Tryz.results16, go_sem, noS, f0, f1, f2, f3, f4, f5, f6, f7]) rfl ?_
      rw [HV.out]
      exact ⟨rfl, B9⟩
    | false =>
      go_wp2_with fail
      obtain ⟨⟨vC, nC⟩, qC⟩ := name_it (numP (L s) nB)
      have hsp := numP_spec (L s) nB (by rw [L_length]; exact lB)
      have hle := (numP_le (L s) nB (by rw [L_length]; exact lB)).2
      rw [qC.out] at hsp hle
      rw [L_length] at hle
      simp only [] at hsp hle
      have CC := fun wx => rnumP_any s nB wx lB hs vC nC qC.out
      rcases hsp with ⟨h1, h2⟩ | ⟨h1, h2⟩ | ⟨h1, h2, c, h3, h4⟩
      ·
        rw [decide_eq_false (by omega)] at CC
        replace CC := Lib.hid CC
        have he : Hid ((pC (L s)).2 = (nB, true)) := by unfold pC Hid; rw [hB.out]; exact h2
        have HV : Hid (VR = .tuple #[noS, .int .i64 (nC : Nat), .int .i64 280]) := by rw [← hVR.out]; exact parV_bad (h1 ▸ (end_C (by rw [he.out])).trans he.out)
        clear h1 h2
        refine (CC.out _).mono ?_
        rintro e w3 ⟨rfl, b3⟩
        have R3 := Lib.hid (R2.out.on b3)
        clear b3 R2 CC he
        have z0 : w3.cell? ⟨w.heap.size, 0, none⟩ = some (.string ⟨#[]⟩) := R3.out.box.cell 0
        have y0 : w3.frozen? ⟨w.heap.size, 0, none⟩ = false := R3.out.box.frozen 0
        have z1 : w3.cell? ⟨w.heap.size, 1, none⟩ = some (.int .i64 0) := R3.out.box.cell 1
        have y1 : w3.frozen? ⟨w.heap.size, 1, none⟩ = false := R3.out.box.frozen 1
        have z2 : w3.cell? ⟨w.heap.size, 2, none⟩ = some (.int .i64 0) := R3.out.box.cell 2
        have y2 : w3.frozen? ⟨w.heap.size, 2, none⟩ = false := R3.out.box.frozen 2
        have z3 : w3.cell? ⟨w.heap.size, 3, none⟩ = some (.string ⟨#[]⟩) := R3.out.box.cell 3
        have y3 : w3.frozen? ⟨w.heap.size, 3, none⟩ = false := R3.out.box.frozen 3
        have z4 : w3.cell? ⟨w.heap.size, 4, none⟩ = some (.string ⟨#[]⟩) := R3.out.box.cell 4
        have y4 : w3.frozen? ⟨w.heap.size, 4, none⟩ = false := R3.out.box.frozen 4
        have z5 : w3.cell? ⟨w.heap.size, 5, none⟩ = some (.int .i64 0) := R3.out.box.cell 5
        have y5 : w3.frozen? ⟨w.heap.size, 5, none⟩ = false := R3.out.box.frozen 5
        have z6 : w3.cell? ⟨w.heap.size, 6, none⟩ = some (.int .i64 0) := R3.out.box.cell 6
        have y6 : w3.frozen? ⟨w.heap.size, 6, none⟩ = false := R3.out.box.frozen 6
        have z7 : w3.cell? ⟨w.heap.size, 7, none⟩ = some (.int .i64 0) := R3.out.box.cell 7
        have y7 : w3.frozen? ⟨w.heap.size, 7, none⟩ = false := R3.out.box.frozen 7
        go_wp2_with fail
        all_goals (try (exfalso; omega))
        obtain ⟨K9, B9⟩ := R3.out.box8 (.string ⟨#[]⟩) (.int .i64 0) (.int .i64 0) (.string ⟨#[]⟩) (.string ⟨#[]⟩) (.int .i64 0) (.int .i64 0) (.int .i64 0)
        obtain ⟨w9, hw9⟩ := name_it (((((((((w3.setCell ⟨w.heap.size, 0, none⟩ (.string ⟨#[]⟩)).setCell ⟨w.heap.size, 1, none⟩ (.int .i64 0)).setCell ⟨w.heap.size, 2, none⟩ (.int .i64 0)).setCell ⟨w.heap.size, 3, none⟩ (.string ⟨#[]⟩)).setCell ⟨w.heap.size, 4, none⟩ (.string ⟨#[]⟩)).setCell ⟨w.heap.size, 5, none⟩ (.int .i64 0)).setCell ⟨w.heap.size, 6, none⟩ (.int .i64 0)).setCell ⟨w.heap.size, 7, none⟩ (.int .i64 0)))
        rw [hw9.out] at K9 B9
        rw [hw9.out]
        clear z0 y0 z1 y1 z2 y2 z3 y3 z4 y4 z5 y5 z6 y6 z7 y7
        have f0 : w9.cell? ⟨w.heap.size, 0, none⟩ = some (.string ⟨#[]⟩) := K9.cell 0
        have f1 : w9.cell? ⟨w.heap.size, 1, none⟩ = some (.int .i64 0) := K9.cell 1
        have f2 : w9.cell? ⟨w.heap.size, 2, none⟩ = some (.int .i64 0) := K9.cell 2
        have f3 : w9.cell? ⟨w.heap.size, 3, none⟩ = some (.string ⟨#[]⟩) := K9.cell 3
        have f4 : w9.cell? ⟨w.heap.size, 4, none⟩ = some (.string ⟨#[]⟩) := K9.cell 4
        have f5 : w9.cell? ⟨w.heap.size, 5, none⟩ = some (.int .i64 0) := K9.cell 5
        have f6 : w9.cell? ⟨w.heap.size, 6, none⟩ = some (.int .i64 0) := K9.cell 6
        have f7 : w9.cell? ⟨w.heap.size, 7, none⟩ = some (.int .i64 0) := K9.cell 7
        refine bodyPost_ret (v := .tuple #[noS, .int .i64 (nC : Nat), .int .i64 280]) (by simp [results, Tryz.results16, go_sem, noS, f0, f1, f2, f3, f4, f5, f6, f7]) rfl ?_
        rw [HV.out]
        exact ⟨rfl, B9⟩
      ·
        rw [decide_eq_true h1] at CC
        replace CC := Lib.hid CC
        have hC : Hid (pC (L s) = (vC, (nC, false))) := by unfold pC Hid; rw [hB.out]; exact h2
        have hC2 : Hid ((pC (L s)).2 = (nC, false)) := by unfold Hid; rw [hC.out]
        have lC := hle
        clear h1 h2 hle
        refine (CC.out _).mono ?_
        rintro e w4 ⟨rfl, b4⟩
        have R4 := Lib.hid (R2.out.on b4)
        have H4 := Lib.hid (H2.out.below b4 H2.out.lt)
        clear b4 R2 CC
        have c : w4.cell? ⟨w.heap.size + 1, 1, none⟩ = some (.int .i64 0) := R4.out.ent.cell 1
        have fz := R4.out.ent.frozen 1
        have T4 : Hid (RS w (w4.setCell ⟨w.heap.size + 1, 1, none⟩ (.int .i64 vC)) ⟨((L s).take nA), [], [], vC, 0, 0, 0, 0⟩) := R4.out.store 1 (.int .i64 vC) _ (rfl)
        have G4 : Hid (Blk (w4.setCell ⟨w.heap.size + 1, 1, none⟩ (.int .i64 vC)) hb 9 #[.string ⟨#[32, 99, 111, 110, 110, 61]⟩, .string ⟨#[32, 110, 117, 109, 98, 101, 114, 61]⟩, .string ⟨#[32, 116, 105, 99, 107, 61]⟩]) := H4.out.just (Just.set (w.heap.size + 1) 1 w4 (.int .i64 vC)) hne
        go_wp2_with fail
        obtain ⟨v4, hv4⟩ := name_it (w4.setCell ⟨w.heap.size + 1, 1, none⟩ (.int .i64 vC))
        rw [hv4.out] at T4 G4
        rw [hv4.out]
        clear c fz R4 hv4 H4
        rw [rounds_succ]
        have hc : v4.cell? ⟨hb, 1, none⟩ = some (.string ⟨#[32, 110, 117, 109, 98, 101, 114, 61]⟩) := G4.out.cell 1
        go_wp2_with fail
        obtain ⟨⟨nD, bD⟩, hD⟩ := name_it (pD (L s))
        have lD := le_D (L s)
        rw [hD.out, L_length] at lD
        simp only [] at lD
        have CD := Lib.hid (fun wx => rtextS s ⟨#[32, 110, 117, 109, 98, 101, 114, 61]⟩ nC wx lC hs (by decide) nD bD (by have h := hD.out; unfold pD at h; rw [hC2.out] at h; exact h))
        refine (CD.out _).mono ?_
        rintro e w5 ⟨rfl, b5⟩
        have R5 := Lib.hid (T4.out.on b5)
        have H5 := Lib.hid (G4.out.below b5 G4.out.lt)
        clear b5 T4 CD hc G4
        cases bD with
        | true =>
          have HV : Hid (VR = .tuple #[noS, .int .i64 (nD : Nat), .int .i64 280]) := by rw [← hVR.out]; exact parV_bad ((end_D (by rw [hD.out])).trans hD.out)
          have z0 : w5.cell? ⟨w.heap.size, 0, none⟩ = some (.string ⟨#[]⟩) := R5.out.box.cell 0
          have y0 : w5.frozen? ⟨w.heap.size, 0, none⟩ = false := R5.out.box.frozen 0
          have z1 : w5.cell? ⟨w.heap.size, 1, none⟩ = some (.int .i64 0) := R5.out.box.cell 1
          have y1 : w5.frozen? ⟨w.heap.size, 1, none⟩ = false := R5.out.box.frozen 1
          have z2 : w5.cell? ⟨w.heap.size, 2, none⟩ = some (.int .i64 0) := R5.out.box.cell 2
          have y2 : w5.frozen? ⟨w.heap.size, 2, none⟩ = false := R5.out.box.frozen 2
          have z3 : w5.cell? ⟨w.heap.size, 3, none⟩ = some (.string ⟨#[]⟩) := R5.out.box.cell 3
          have y3 : w5.frozen? ⟨w.heap.size, 3, none⟩ = false := R5.out.box.frozen 3
          have z4 : w5.cell? ⟨w.heap.size, 4, none⟩ = some (.string ⟨#[]⟩) := R5.out.box.cell 4
          have y4 : w5.frozen? ⟨w.heap.size, 4, none⟩ = false := R5.out.box.frozen 4
          have z5 : w5.cell? ⟨w.heap.size, 5, none⟩ = some (.int .i64 0) := R5.out.box.cell 5
          have y5 : w5.frozen? ⟨w.heap.size, 5, none⟩ = false := R5.out.box.frozen 5
          have z6 : w5.cell? ⟨w.heap.size, 6, none⟩ = some (.int .i64 0) := R5.out.box.cell 6
          have y6 : w5.frozen? ⟨w.heap.size, 6, none⟩ = false := R5.out.box.frozen 6
          have z7 : w5.cell? ⟨w.heap.size, 7, none⟩ = some (.int .i64 0) := R5.out.box.cell 7
          have y7 : w5.frozen? ⟨w.heap.size, 7, none⟩ = false := R5.out.box.frozen 7
          go_wp2_with fail
          all_goals (try (exfalso; omega))
          obtain ⟨K9, B9⟩ := R5.out.box8 (.string ⟨#[]⟩) (.int .i64 0) (.int .i64 0) (.string ⟨#[]⟩) (.string ⟨#[]⟩) (.int .i64 0) (.int .i64 0) (.int .i64 0)
          obtain ⟨w9, hw9⟩ := name_it (((((((((w5.setCell ⟨w.heap.size, 0, none⟩ (.string ⟨#[]⟩)).setCell ⟨w.heap.size, 1, none⟩ (.int .i64 0)).setCell ⟨w.heap.size, 2, none⟩ (.int .i64 0)).setCell ⟨w.heap.size, 3, none⟩ (.string ⟨#[]⟩)).setCell ⟨w.heap.size, 4, none⟩ (.string ⟨#[]⟩)).setCell ⟨w.heap.size, 5, none⟩ (.int .i64 0)).setCell ⟨w.heap.size, 6, none⟩ (.int .i64 0)).setCell ⟨w.heap.size, 7, none⟩ (.int .i64 0)))
          rw [hw9.out] at K9 B9
          rw [hw9.out]
          clear z0 y0 z1 y1 z2 y2 z3 y3 z4 y4 z5 y5 z6 y6 z7 y7
          have f0 : w9.cell? ⟨w.heap.size, 0, none⟩ = some (.string ⟨#[]⟩) := K9.cell 0
          have f1 : w9.cell? ⟨w.heap.size, 1, none⟩ = some (.int .i64 0) := K9.cell 1
          have f2 : w9.cell? ⟨w.heap.size, 2, none⟩ = some (.int .i64 0) := K9.cell 2
          have f3 : w9.cell? ⟨w.heap.size, 3, none⟩ = some (.string ⟨#[]⟩) := K9.cell 3
          have f4 : w9.cell? ⟨w.heap.size, 4, none⟩ = some (.string ⟨#[]⟩) := K9.cell 4
          have f5 : w9.cell? ⟨w.heap.size, 5, none⟩ = some (.int .i64 0) := K9.cell 5
          have f6 : w9.cell? ⟨w.heap.size, 6, none⟩ = some (.int .i64 0) := K9.cell 6
          have f7 : w9.cell? ⟨w.heap.size, 7, none⟩ = some (.int .i64 0) := K9.cell 7
          refine bodyPost_ret (v := .tuple #[noS, .int .i64 (nD : Nat), .int .i64 280]) (by simp [results, Tryz.results16, go_sem, noS, f0, f1, f2, f3, f4, f5, f6, f7]) rfl ?_
          rw [HV.out]
          exact ⟨rfl, B9⟩
        | false =>
          go_wp2_with fail
          obtain ⟨⟨vE, nE⟩, qE⟩ := name_it (numP (L s) nD)
          have hsp := numP_spec (L s) nD (by rw [L_length]; exact lD)
          have hle := (numP_le (L s) nD (by rw [L_length]; exact lD)).2
          rw [qE.out] at hsp hle
          rw [L_length] at hle
          simp only [] at hsp hle
          have CE := fun wx => rnumP_any s nD wx lD hs vE nE qE.out
          rcases hsp with ⟨h1, h2⟩ | ⟨h1, h2⟩ | ⟨h1, h2, c, h3, h4⟩
          ·
            rw [decide_eq_false (by omega)] at CE
            replace CE := Lib.hid CE
            have he : Hid ((pE (L s)).2 = (nD, true)) := by unfold pE Hid; rw [hD.out]; exact h2
            have HV : Hid (VR = .tuple #[noS, .int .i64 (nE : Nat), .int .i64 280]) := by rw [← hVR.out]; exact parV_bad (h1 ▸ (end_E (by rw [he.out])).trans he.out)
            clear h1 h2
            refine (CE.out _).mono ?_
            rintro e w6 ⟨rfl, b6⟩
            have R6 := Lib.hid (R5.out.on b6)
            clear b6 R5 CE he
            have z0 : w6.cell? ⟨w.heap.size, 0, none⟩ = some (.string ⟨#[]⟩) := R6.out.box.cell 0
            have y0 : w6.frozen? ⟨w.heap.size, 0, none⟩ = false := R6.out.box.frozen 0
            have z1 : w6.cell? ⟨w.heap.size, 1, none⟩ = some (.int .i64 0) := R6.out.box.cell 1
            have y1 : w6.frozen? ⟨w.heap.size, 1, none⟩ = false := R6.out.box.frozen 1
            have z2 : w6.cell? ⟨w.heap.size, 2, none⟩ = some (.int .i64 0) := R6.out.box.cell 2
            have y2 : w6.frozen? ⟨w.heap.size, 2, none⟩ = false := R6.out.box.frozen 2
            have z3 : w6.cell? ⟨w.heap.size, 3, none⟩ = some (.string ⟨#[]⟩) := R6.out.box.cell 3
            have y3 : w6.frozen? ⟨w.heap.size, 3, none⟩ = false := R6.out.box.frozen 3
            have z4 : w6.cell? ⟨w.heap.size, 4, none⟩ = some (.string ⟨#[]⟩) := R6.out.box.cell 4
            have y4 : w6.frozen? ⟨w.heap.size, 4, none⟩ = false := R6.out.box.frozen 4
            have z5 : w6.cell? ⟨w.heap.size, 5, none⟩ = some (.int .i64 0) := R6.out.box.cell 5
            have y5 : w6.frozen? ⟨w.heap.size, 5, none⟩ = false := R6.out.box.frozen 5
            have z6 : w6.cell? ⟨w.heap.size, 6, none⟩ = some (.int .i64 0) := R6.out.box.cell 6
            have y6 : w6.frozen? ⟨w.heap.size, 6, none⟩ = false := R6.out.box.frozen 6
            have z7 : w6.cell? ⟨w.heap.size, 7, none⟩ = some (.int .i64 0) := R6.out.box.cell 7
            have y7 : w6.frozen? ⟨w.heap.size, 7, none⟩ = false := R6.out.box.frozen 7
            go_wp2_with fail
            all_goals (try (exfalso; omega))
            obtain ⟨K9, B9⟩ := R6.out.box8 (.string ⟨#[]⟩) (.int .i64 0) (.int .i64 0) (.string ⟨#[]⟩) (.string ⟨#[]⟩) (.int .i64 0) (.int .i64 0) (.int .i64 0)
            obtain ⟨w9, hw9⟩ := name_it (((((((((w6.setCell ⟨w.heap.size, 0, none⟩ (.string ⟨#[]⟩)).setCell ⟨w.heap.size, 1, none⟩ (.int .i64 0)).setCell ⟨w.heap.size, 2, none⟩ (.int .i64 0)).setCell ⟨w.heap.size, 3, none⟩ (.string ⟨#[]⟩)).setCell ⟨w.heap.size, 4, none⟩ (.string ⟨#[]⟩)).setCell ⟨w.heap.size, 5, none⟩ (.int .i64 0)).setCell ⟨w.heap.size, 6, none⟩ (.int .i64 0)).setCell ⟨w.heap.size, 7, none⟩ (.int .i64 0)))
            rw [hw9.out] at K9 B9
            rw [hw9.out]
            clear z0 y0 z1 y1 z2 y2 z3 y3 z4 y4 z5 y5 z6 y6 z7 y7
            have f0 : w9.cell? ⟨w.heap.size, 0, none⟩ = some (.string ⟨#[]⟩) := K9.cell 0
            have f1 : w9.cell? ⟨w.heap.size, 1, none⟩ = some (.int .i64 0) := K9.cell 1
            have f2 : w9.cell? ⟨w.heap.size, 2, none⟩ = some (.int .i64 0) := K9.cell 2
            have f3 : w9.cell? ⟨w.heap.size, 3, none⟩ = some (.string ⟨#[]⟩) := K9.cell 3
            have f4 : w9.cell? ⟨w.heap.size, 4, none⟩ = some (.string ⟨#[]⟩) := K9.cell 4
            have f5 : w9.cell? ⟨w.heap.size, 5, none⟩ = some (.int .i64 0) := K9.cell 5
            have f6 : w9.cell? ⟨w.heap.size, 6, none⟩ = some (.int .i64 0) := K9.cell 6
            have f7 : w9.cell? ⟨w.heap.size, 7, none⟩ = some (.int .i64 0) := K9.cell 7
            refine bodyPost_ret (v := .tuple #[noS, .int .i64 (nE : Nat), .int .i64 280]) (by simp [results, Tryz.results16, go_sem, noS, f0, f1, f2, f3, f4, f5, f6, f7]) rfl ?_
            rw [HV.out]
            exact ⟨rfl, B9⟩
          ·
            rw [decide_eq_true h1] at CE
            replace CE := Lib.hid CE
            have hE : Hid (pE (L s) = (vE, (nE, false))) := by unfold pE Hid; rw [hD.out]; exact h2
            have hE2 : Hid ((pE (L s)).2 = (nE, false)) := by unfold Hid; rw [hE.out]
            have lE := hle
            clear h1 h2 hle
            refine (CE.out _).mono ?_
            rintro e w7 ⟨rfl, b7⟩
            have R7 := Lib.hid (R5.out.on b7)
            have H7 := Lib.hid (H5.out.below b7 H5.out.lt)
            clear b7 R5 CE
            have c : w7.cell? ⟨w.heap.size + 1, 2, none⟩ = some (.int .i64 0) := R7.out.ent.cell 2
            have fz := R7.out.ent.frozen 2
            have T7 : Hid (RS w (w7.setCell ⟨w.heap.size + 1, 2, none⟩ (.int .i64 vE)) ⟨((L s).take nA), [], [], vC, vE, 0, 0, 0⟩) := R7.out.store 2 (.int .i64 vE) _ (rfl)
            have G7 : Hid (Blk (w7.setCell ⟨w.heap.size + 1, 2, none⟩ (.int .i64 vE)) hb 9 #[.string ⟨#[32, 99, 111, 110, 110, 61]⟩, .string ⟨#[32, 110, 117, 109, 98, 101, 114, 61]⟩, .string ⟨#[32, 116, 105, 99, 107, 61]⟩]) := H7.out.just (Just.set (w.heap.size + 1) 2 w7 (.int .i64 vE)) hne
            go_wp2_with fail
            obtain ⟨v7, hv7⟩ := name_it (w7.setCell ⟨w.heap.size + 1, 2, none⟩ (.int .i64 vE))
            rw [hv7.out] at T7 G7
            rw [hv7.out]
            clear c fz R7 hv7 H7
            rw [rounds_succ]
            have hc : v7.cell? ⟨hb, 2, none⟩ = some (.string ⟨#[32, 116, 105, 99, 107, 61]⟩) := G7.out.cell 2
            go_wp2_with fail
            obtain ⟨⟨nF, bF⟩, hF⟩ := name_it (pF (L s))
            have lF := le_F (L s)
            rw [hF.out, L_length] at lF
            simp only [] at lF
            have CF := Lib.hid (fun wx => rtextS s ⟨#[32, 116, 105, 99, 107, 61]⟩ nE wx lE hs (by decide) nF bF (by have h := hF.out; unfold pF at h; rw [hE2.out] at h; exact h))
            refine (CF.out _).mono ?_
            rintro e w8 ⟨rfl, b8⟩
            have R8 := Lib.hid (T7.out.on b8)
            have H8 := Lib.hid (G7.out.below b8 G7.out.lt)
            clear b8 T7 CF hc G7
            cases bF with
            | true =>
              have HV : Hid (VR = .tuple #[noS, .int .i64 (nF : Nat), .int .i64 280]) := by rw [← hVR.out]; exact parV_bad ((end_F (by rw [hF.out])).trans hF.out)
              have z0 : w8.cell? ⟨w.heap.size, 0, none⟩ = some (.string ⟨#[]⟩) := R8.out.box.cell 0
              have y0 : w8.frozen? ⟨w.heap.size, 0, none⟩ = false := R8.out.box.frozen 0
              have z1 : w8.cell? ⟨w.heap.size, 1, none⟩ = some (.int .i64 0) := R8.out.box.cell 1
              have y1 : w8.frozen? ⟨w.heap.size, 1, none⟩ = false := R8.out.box.frozen 1
              have z2 : w8.cell? ⟨w.heap.size, 2, none⟩ = some (.int .i64 0) := R8.out.box.cell 2
              have y2 : w8.frozen? ⟨w.heap.size, 2, none⟩ = false := R8.out.box.frozen 2
              have z3 : w8.cell? ⟨w.heap.size, 3, none⟩ = some (.string ⟨#[]⟩) := R8.out.box.cell 3
              have y3 : w8.frozen? ⟨w.heap.size, 3, none⟩ = false := R8.out.box.frozen 3
              have z4 : w8.cell? ⟨w.heap.size, 4, none⟩ = some (.string ⟨#[]⟩) := R8.out.box.cell 4
              have y4 : w8.frozen? ⟨w.heap.size, 4, none⟩ = false := R8.out.box.frozen 4
              have z5 : w8.cell? ⟨w.heap.size, 5, none⟩ = some (.int .i64 0) := R8.out.box.cell 5
              have y5 : w8.frozen? ⟨w.heap.size, 5, none⟩ = false := R8.out.box.frozen 5
              have z6 : w8.cell? ⟨w.heap.size, 6, none⟩ = some (.int .i64 0) := R8.out.box.cell 6
              have y6 : w8.frozen? ⟨w.heap.size, 6, none⟩ = false := R8.out.box.frozen 6
              have z7 : w8.cell? ⟨w.heap.size, 7, none⟩ = some (.int .i64 0) := R8.out.box.cell 7
              have y7 : w8.frozen? ⟨w.heap.size, 7, none⟩ = false := R8.out.box.frozen 7
              go_wp2_with fail
              all_goals (try (exfalso; omega))
              obtain ⟨K9, B9⟩ := R8.out.box8 (.string ⟨#[]⟩) (.int .i64 0) (.int .i64 0) (.string ⟨#[]⟩) (.string ⟨#[]⟩) (.int .i64 0) (.int .i64 0) (.int .i64 0)
              obtain ⟨w9, hw9⟩ := name_it (((((((((w8.setCell ⟨w.heap.size, 0, none⟩ (.string ⟨#[]⟩)).setCell ⟨w.heap.size, 1, none⟩ (.int .i64 0)).setCell ⟨w.heap.size, 2, none⟩ (.int .i64 0)).setCell ⟨w.heap.size, 3, none⟩ (.string ⟨#[]⟩)).setCell ⟨w.heap.size, 4, none⟩ (.string ⟨#[]⟩)).setCell ⟨w.heap.size, 5, none⟩ (.int .i64 0)).setCell ⟨w.heap.size, 6, none⟩ (.int .i64 0)).setCell ⟨w.heap.size, 7, none⟩ (.int .i64 0)))
              rw [hw9.out] at K9 B9
              rw [hw9.out]
              clear z0 y0 z1 y1 z2 y2 z3 y3 z4 y4 z5 y5 z6 y6 z7 y7
              have f0 : w9.cell? ⟨w.heap.size, 0, none⟩ = some (.string ⟨#[]⟩) := K9.cell 0
              have f1 : w9.cell? ⟨w.heap.size, 1, none⟩ = some (.int .i64 0) := K9.cell 1
              have f2 : w9.cell? ⟨w.heap.size, 2, none⟩ = some (.int .i64 0) := K9.cell 2
              have f3 : w9.cell? ⟨w.heap.size, 3, none⟩ = some (.string ⟨#[]⟩) := K9.cell 3
              have f4 : w9.cell? ⟨w.heap.size, 4, none⟩ = some (.string ⟨#[]⟩) := K9.cell 4
              have f5 : w9.cell? ⟨w.heap.size, 5, none⟩ = some (.int .i64 0) := K9.cell 5
              have f6 : w9.cell? ⟨w.heap.size, 6, none⟩ = some (.int .i64 0) := K9.cell 6
              have f7 : w9.cell? ⟨w.heap.size, 7, none⟩ = some (.int .i64 0) := K9.cell 7
              refine bodyPost_ret (v := .tuple #[noS, .int .i64 (nF : Nat), .int .i64 280]) (by simp [results, Tryz.results16, go_sem, noS, f0, f1, f2, f3, f4, f5, f6, f7]) rfl ?_
              rw [HV.out]
              exact ⟨rfl, B9⟩
            | false =>
              go_wp2_with fail
              obtain ⟨⟨vG, nG⟩, qG⟩ := name_it (numP (L s) nF)
              have hsp := numP_spec (L s) nF (by rw [L_length]; exact lF)
              have hle := (numP_le (L s) nF (by rw [L_length]; exact lF)).2
              rw [qG.out] at hsp hle
              rw [L_length] at hle
              simp only [] at hsp hle
              have CG := fun wx => rnumP_any s nF wx lF hs vG nG qG.out
              rcases hsp with ⟨h1, h2⟩ | ⟨h1, h2⟩ | ⟨h1, h2, c, h3, h4⟩
              ·
                rw [decide_eq_false (by omega)] at CG
                replace CG := Lib.hid CG
                have he : Hid ((pG (L s)).2 = (nF, true)) := by unfold pG Hid; rw [hF.out]; exact h2
                have HV : Hid (VR = .tuple #[noS, .int .i64 (nG : Nat), .int .i64 280]) := by rw [← hVR.out]; exact parV_bad (h1 ▸ (end_G (by rw [he.out])).trans he.out)
                clear h1 h2
                refine (CG.out _).mono ?_
                rintro e w9 ⟨rfl, b9⟩
                have R9 := Lib.hid (R8.out.on b9)
                clear b9 R8 CG he
                have z0 : w9.cell? ⟨w.heap.size, 0, none⟩ = some (.string ⟨#[]⟩) := R9.out.box.cell 0
                have y0 : w9.frozen? ⟨w.heap.size, 0, none⟩ = false := R9.out.box.frozen 0
                have z1 : w9.cell? ⟨w.heap.size, 1, none⟩ = some (.int .i64 0) := R9.out.box.cell 1
                have y1 : w9.frozen? ⟨w.heap.size, 1, none⟩ = false := R9.out.box.frozen 1
                have z2 : w9.cell? ⟨w.heap.size, 2, none⟩ = some (.int .i64 0) := R9.out.box.cell 2
                have y2 : w9.frozen? ⟨w.heap.size, 2, none⟩ = false := R9.out.box.frozen 2
                have z3 : w9.cell? ⟨w.heap.size, 3, none⟩ = some (.string ⟨#[]⟩) := R9.out.box.cell 3
                have y3 : w9.frozen? ⟨w.heap.size, 3, none⟩ = false := R9.out.box.frozen 3
                have z4 : w9.cell? ⟨w.heap.size, 4, none⟩ = some (.string ⟨#[]⟩) := R9.out.box.cell 4
                have y4 : w9.frozen? ⟨w.heap.size, 4, none⟩ = false := R9.out.box.frozen 4
                have z5 : w9.cell? ⟨w.heap.size, 5, none⟩ = some (.int .i64 0) := R9.out.box.cell 5
                have y5 : w9.frozen? ⟨w.heap.size, 5, none⟩ = false := R9.out.box.frozen 5
                have z6 : w9.cell? ⟨w.heap.size, 6, none⟩ = some (.int .i64 0) := R9.out.box.cell 6
                have y6 : w9.frozen? ⟨w.heap.size, 6, none⟩ = false := R9.out.box.frozen 6
                have z7 : w9.cell? ⟨w.heap.size, 7, none⟩ = some (.int .i64 0) := R9.out.box.cell 7
                have y7 : w9.frozen? ⟨w.heap.size, 7, none⟩ = false := R9.out.box.frozen 7
                go_wp2_with fail
                all_goals (try (exfalso; omega))
                obtain ⟨K9, B9⟩ := R9.out.box8 (.string ⟨#[]⟩) (.int .i64 0) (.int .i64 0) (.string ⟨#[]⟩) (.string ⟨#[]⟩) (.int .i64 0) (.int .i64 0) (.int .i64 0)
                obtain ⟨w9, hw9⟩ := name_it (((((((((w9.setCell ⟨w.heap.size, 0, none⟩ (.string ⟨#[]⟩)).setCell ⟨w.heap.size, 1, none⟩ (.int .i64 0)).setCell ⟨w.heap.size, 2, none⟩ (.int .i64 0)).setCell ⟨w.heap.size, 3, none⟩ (.string ⟨#[]⟩)).setCell ⟨w.heap.size, 4, none⟩ (.string ⟨#[]⟩)).setCell ⟨w.heap.size, 5, none⟩ (.int .i64 0)).setCell ⟨w.heap.size, 6, none⟩ (.int .i64 0)).setCell ⟨w.heap.size, 7, none⟩ (.int .i64 0)))
                rw [hw9.out] at K9 B9
                rw [hw9.out]
                clear z0 y0 z1 y1 z2 y2 z3 y3 z4 y4 z5 y5 z6 y6 z7 y7
                have f0 : w9.cell? ⟨w.heap.size, 0, none⟩ = some (.string ⟨#[]⟩) := K9.cell 0
                have f1 : w9.cell? ⟨w.heap.size, 1, none⟩ = some (.int .i64 0) := K9.cell 1
                have f2 : w9.cell? ⟨w.heap.size, 2, none⟩ = some (.int .i64 0) := K9.cell 2
                have f3 : w9.cell? ⟨w.heap.size, 3, none⟩ = some (.string ⟨#[]⟩) := K9.cell 3
                have f4 : w9.cell? ⟨w.heap.size, 4, none⟩ = some (.string ⟨#[]⟩) := K9.cell 4
                have f5 : w9.cell? ⟨w.heap.size, 5, none⟩ = some (.int .i64 0) := K9.cell 5
                have f6 : w9.cell? ⟨w.heap.size, 6, none⟩ = some (.int .i64 0) := K9.cell 6
                have f7 : w9.cell? ⟨w.heap.size, 7, none⟩ = some (.int .i64 0) := K9.cell 7
                refine bodyPost_ret (v := .tuple #[noS, .int .i64 (nG : Nat), .int .i64 280]) (by simp [results, Tryz.results16, go_sem, noS, f0, f1, f2, f3, f4, f5, f6, f7]) rfl ?_
                rw [HV.out]
                exact ⟨rfl, B9⟩
              ·
                rw [decide_eq_true h1] at CG
                replace CG := Lib.hid CG
                have hG : Hid (pG (L s) = (vG, (nG, false))) := by unfold pG Hid; rw [hF.out]; exact h2
                have hG2 : Hid ((pG (L s)).2 = (nG, false)) := by unfold Hid; rw [hG.out]
                have lG := hle
                clear h1 h2 hle
                refine (CG.out _).mono ?_
                rintro e w10 ⟨rfl, b10⟩
                have R10 := Lib.hid (R8.out.on b10)
                have H10 := Lib.hid (H8.out.below b10 H8.out.lt)
                clear b10 R8 CG
                have c : w10.cell? ⟨w.heap.size + 1, 7, none⟩ = some (.int .i64 0) := R10.out.ent.cell 7
                have fz := R10.out.ent.frozen 7
                have T10 : Hid (RS w (w10.setCell ⟨w.heap.size + 1, 7, none⟩ (.int .i64 vG)) ⟨((L s).take nA), [], [], vC, vE, vG, 0, 0⟩) := R10.out.store 7 (.int .i64 vG) _ (rfl)
                have G10 : Hid (Blk (w10.setCell ⟨w.heap.size + 1, 7, none⟩ (.int .i64 vG)) hb 9 #[.string ⟨#[32, 99, 111, 110, 110, 61]⟩, .string ⟨#[32, 110, 117, 109, 98, 101, 114, 61]⟩, .string ⟨#[32, 116, 105, 99, 107, 61]⟩]) := H10.out.just (Just.set (w.heap.size + 1) 7 w10 (.int .i64 vG)) hne
                go_wp2_with fail
                obtain ⟨v10, hv10⟩ := name_it (w10.setCell ⟨w.heap.size + 1, 7, none⟩ (.int .i64 vG))
                rw [hv10.out] at T10 G10
                rw [hv10.out]
                clear c fz R10 hv10 H10
                clear G10
                rw [rounds_succ]
                go_wp2_with fail
                obtain ⟨⟨nH, bH⟩, hH⟩ := name_it (pH (L s))
                have lH := le_H (L s)
                rw [hH.out, L_length] at lH
                simp only [] at lH
                have CH := Lib.hid (fun wx => rtextS s ⟨#[32]⟩ nG wx lG hs (by decide) nH bH (by have h := hH.out; unfold pH at h; rw [hG2.out] at h; exact h))
                refine (CH.out _).mono ?_
                rintro e w11 ⟨rfl, b11⟩
                have R11 := Lib.hid (T10.out.on b11)
                clear b11 T10 CH
                cases bH with
                | true =>
                  have HV : Hid (VR = .tuple #[noS, .int .i64 (nH : Nat), .int .i64 280]) := by rw [← hVR.out]; exact parV_bad ((end_H (by rw [hH.out])).trans hH.out)
                  have z0 : w11.cell? ⟨w.heap.size, 0, none⟩ = some (.string ⟨#[]⟩) := R11.out.box.cell 0
                  have y0 : w11.frozen? ⟨w.heap.size, 0, none⟩ = false := R11.out.box.frozen 0
                  have z1 : w11.cell? ⟨w.heap.size, 1, none⟩ = some (.int .i64 0) := R11.out.box.cell 1
                  have y1 : w11.frozen? ⟨w.heap.size, 1, none⟩ = false := R11.out.box.frozen 1
                  have z2 : w11.cell? ⟨w.heap.size, 2, none⟩ = some (.int .i64 0) := R11.out.box.cell 2
                  have y2 : w11.frozen? ⟨w.heap.size, 2, none⟩ = false := R11.out.box.frozen 2
                  have z3 : w11.cell? ⟨w.heap.size, 3, none⟩ = some (.string ⟨#[]⟩) := R11.out.box.cell 3
                  have y3 : w11.frozen? ⟨w.heap.size, 3, none⟩ = false := R11.out.box.frozen 3
                  have z4 : w11.cell? ⟨w.heap.size, 4, none⟩ = some (.string ⟨#[]⟩) := R11.out.box.cell 4
                  have y4 : w11.frozen? ⟨w.heap.size, 4, none⟩ = false := R11.out.box.frozen 4
                  have z5 : w11.cell? ⟨w.heap.size, 5, none⟩ = some (.int .i64 0) := R11.out.box.cell 5
                  have y5 : w11.frozen? ⟨w.heap.size, 5, none⟩ = false := R11.out.box.frozen 5
                  have z6 : w11.cell? ⟨w.heap.size, 6, none⟩ = some (.int .i64 0) := R11.out.box.cell 6
                  have y6 : w11.frozen? ⟨w.heap.size, 6, none⟩ = false := R11.out.box.frozen 6
                  have z7 : w11.cell? ⟨w.heap.size, 7, none⟩ = some (.int .i64 0) := R11.out.box.cell 7
                  have y7 : w11.frozen? ⟨w.heap.size, 7, none⟩ = false := R11.out.box.frozen 7
                  go_wp2_with fail
                  all_goals (try (exfalso; omega))
                  obtain ⟨K9, B9⟩ := R11.out.box8 (.string ⟨#[]⟩) (.int .i64 0) (.int .i64 0) (.string ⟨#[]⟩) (.string ⟨#[]⟩) (.int .i64 0) (.int .i64 0) (.int .i64 0)
                  obtain ⟨w9, hw9⟩ := name_it (((((((((w11.setCell ⟨w.heap.size, 0, none⟩ (.string ⟨#[]⟩)).setCell ⟨w.heap.size, 1, none⟩ (.int .i64 0)).setCell ⟨w.heap.size, 2, none⟩ (.int .i64 0)).setCell ⟨w.heap.size, 3, none⟩ (.string ⟨#[]⟩)).setCell ⟨w.heap.size, 4, none⟩ (.string ⟨#[]⟩)).setCell ⟨w.heap.size, 5, none⟩ (.int .i64 0)).setCell ⟨w.heap.size, 6, none⟩ (.int .i64 0)).setCell ⟨w.heap.size, 7, none⟩ (.int .i64 0)))
                  rw [hw9.out] at K9 B9
                  rw [hw9.out]
                  clear z0 y0 z1 y1 z2 y2 z3 y3 z4 y4 z5 y5 z6 y6 z7 y7
                  have f0 : w9.cell? ⟨w.heap.size, 0, none⟩ = some (.string ⟨#[]⟩) := K9.cell 0
                  have f1 : w9.cell? ⟨w.heap.size, 1, none⟩ = some (.int .i64 0) := K9.cell 1
                  have f2 : w9.cell? ⟨w.heap.size, 2, none⟩ = some (.int .i64 0) := K9.cell 2
                  have f3 : w9.cell? ⟨w.heap.size, 3, none⟩ = some (.string ⟨#[]⟩) := K9.cell 3
                  have f4 : w9.cell? ⟨w.heap.size, 4, none⟩ = some (.string ⟨#[]⟩) := K9.cell 4
                  have f5 : w9.cell? ⟨w.heap.size, 5, none⟩ = some (.int .i64 0) := K9.cell 5
                  have f6 : w9.cell? ⟨w.heap.size, 6, none⟩ = some (.int .i64 0) := K9.cell 6
                  have f7 : w9.cell? ⟨w.heap.size, 7, none⟩ = some (.int .i64 0) := K9.cell 7
                  refine bodyPost_ret (v := .tuple #[noS, .int .i64 (nH : Nat), .int .i64 280]) (by simp [results, Tryz.results16, go_sem, noS, f0, f1, f2, f3, f4, f5, f6, f7]) rfl ?_
                  rw [HV.out]
                  exact ⟨rfl, B9⟩
                | false =>
                  go_wp2_with fail
                  obtain ⟨⟨nI, bI⟩, hI⟩ := name_it (pI (L s))
                  have lI := le_I (L s)
                  rw [hI.out, L_length] at lI
                  simp only [] at lI
                  have CI := Lib.hid (fun wx => rrunsignS s nH wx lH hs nI bI (by have h := hI.out; unfold pI at h; rw [hH.out] at h; exact h))
                  have lHI : nH ≤ nI := by have h := (runS_le (S := L s) (may := signB) (m := 24) (st := (nH, false)) (by rw [L_length]; exact lH)).1; have h2 := hI.out; unfold pI at h2; rw [hH.out] at h2; rw [h2] at h; exact h
                  refine (CI.out _).mono ?_
                  rintro e w12 ⟨rfl, b12⟩
                  have R12 := Lib.hid (R11.out.on b12)
                  clear b12 R11 CI
                  cases bI with
                  | true =>
                    have HV : Hid (VR = .tuple #[noS, .int .i64 (nI : Nat), .int .i64 280]) := by rw [← hVR.out]; exact parV_bad ((end_I (by rw [hI.out])).trans hI.out)
                    have z0 : w12.cell? ⟨w.heap.size, 0, none⟩ = some (.string ⟨#[]⟩) := R12.out.box.cell 0
                    have y0 : w12.frozen? ⟨w.heap.size, 0, none⟩ = false := R12.out.box.frozen 0
                    have z1 : w12.cell? ⟨w.heap.size, 1, none⟩ = some (.int .i64 0) := R12.out.box.cell 1
                    have y1 : w12.frozen? ⟨w.heap.size, 1, none⟩ = false := R12.out.box.frozen 1
                    have z2 : w12.cell? ⟨w.heap.size, 2, none⟩ = some (.int .i64 0) := R12.out.box.cell 2
                    have y2 : w12.frozen? ⟨w.heap.size, 2, none⟩ = false := R12.out.box.frozen 2
                    have z3 : w12.cell? ⟨w.heap.size, 3, none⟩ = some (.string ⟨#[]⟩) := R12.out.box.cell 3
                    have y3 : w12.frozen? ⟨w.heap.size, 3, none⟩ = false := R12.out.box.frozen 3
                    have z4 : w12.cell? ⟨w.heap.size, 4, none⟩ = some (.string ⟨#[]⟩) := R12.out.box.cell 4
                    have y4 : w12.frozen? ⟨w.heap.size, 4, none⟩ = false := R12.out.box.frozen 4
                    have z5 : w12.cell? ⟨w.heap.size, 5, none⟩ = some (.int .i64 0) := R12.out.box.cell 5
                    have y5 : w12.frozen? ⟨w.heap.size, 5, none⟩ = false := R12.out.box.frozen 5
                    have z6 : w12.cell? ⟨w.heap.size, 6, none⟩ = some (.int .i64 0) := R12.out.box.cell 6
                    have y6 : w12.frozen? ⟨w.heap.size, 6, none⟩ = false := R12.out.box.frozen 6
                    have z7 : w12.cell? ⟨w.heap.size, 7, none⟩ = some (.int .i64 0) := R12.out.box.cell 7
                    have y7 : w12.frozen? ⟨w.heap.size, 7, none⟩ = false := R12.out.box.frozen 7
                    go_wp2_with fail
                    all_goals (try (exfalso; omega))
                    obtain ⟨K9, B9⟩ := R12.out.box8 (.string ⟨#[]⟩) (.int .i64 0) (.int .i64 0) (.string ⟨#[]⟩) (.string ⟨#[]⟩) (.int .i64 0) (.int .i64 0) (.int .i64 0)
                    obtain ⟨w9, hw9⟩ := name_it (((((((((w12.setCell ⟨w.heap.size, 0, none⟩ (.string ⟨#[]⟩)).setCell ⟨w.heap.size, 1, none⟩ (.int .i64 0)).setCell ⟨w.heap.size, 2, none⟩ (.int .i64 0)).setCell ⟨w.heap.size, 3, none⟩ (.string ⟨#[]⟩)).setCell ⟨w.heap.size, 4, none⟩ (.string ⟨#[]⟩)).setCell ⟨w.heap.size, 5, none⟩ (.int .i64 0)).setCell ⟨w.heap.size, 6, none⟩ (.int .i64 0)).setCell ⟨w.heap.size, 7, none⟩ (.int .i64 0)))
                    rw [hw9.out] at K9 B9
                    rw [hw9.out]
                    clear z0 y0 z1 y1 z2 y2 z3 y3 z4 y4 z5 y5 z6 y6 z7 y7
                    have f0 : w9.cell? ⟨w.heap.size, 0, none⟩ = some (.string ⟨#[]⟩) := K9.cell 0
                    have f1 : w9.cell? ⟨w.heap.size, 1, none⟩ = some (.int .i64 0) := K9.cell 1
                    have f2 : w9.cell? ⟨w.heap.size, 2, none⟩ = some (.int .i64 0) := K9.cell 2
                    have f3 : w9.cell? ⟨w.heap.size, 3, none⟩ = some (.string ⟨#[]⟩) := K9.cell 3
                    have f4 : w9.cell? ⟨w.heap.size, 4, none⟩ = some (.string ⟨#[]⟩) := K9.cell 4
                    have f5 : w9.cell? ⟨w.heap.size, 5, none⟩ = some (.int .i64 0) := K9.cell 5
                    have f6 : w9.cell? ⟨w.heap.size, 6, none⟩ = some (.int .i64 0) := K9.cell 6
                    have f7 : w9.cell? ⟨w.heap.size, 7, none⟩ = some (.int .i64 0) := K9.cell 7
                    refine bodyPost_ret (v := .tuple #[noS, .int .i64 (nI : Nat), .int .i64 280]) (by simp [results, Tryz.results16, go_sem, noS, f0, f1, f2, f3, f4, f5, f6, f7]) rfl ?_
                    rw [HV.out]
                    exact ⟨rfl, B9⟩
                  | false =>
                    have q1 : (0 : Int) ≤ (nH : Int) := by omega
                    have q2 : (nH : Int) ≤ (nI : Int) := by omega
                    have q3 : (nI : Int) ≤ (s.size : Int) := by omega
                    have c : w12.cell? ⟨w.heap.size + 1, 3, none⟩ = some (.string ⟨#[]⟩) := R12.out.ent.cell 3
                    have fz := R12.out.ent.frozen 3
                    have T12 : Hid (RS w (w12.setCell ⟨w.heap.size + 1, 3, none⟩ (.string (s.extract nH nI))) ⟨((L s).take nA), (((L s).drop nH).take (nI - nH)), [], vC, vE, vG, 0, 0⟩) := R12.out.store 3 (.string (s.extract nH nI)) _ (by rw [ext_mid]; rfl)
                    go_wp2_with fail
                    obtain ⟨v12, hv12⟩ := name_it (w12.setCell ⟨w.heap.size + 1, 3, none⟩ (.string (s.extract nH nI)))
                    rw [hv12.out] at T12
                    rw [hv12.out]
                    clear c fz R12 hv12
                    obtain ⟨⟨nJ, bJ⟩, hJ⟩ := name_it (pJ (L s))
                    have lJ := le_J (L s)
                    rw [hJ.out, L_length] at lJ
                    simp only [] at lJ
                    have CJ := Lib.hid (fun wx => rtextS s ⟨#[32]⟩ nI wx lI hs (by decide) nJ bJ (by have h := hJ.out; unfold pJ at h; rw [hI.out] at h; exact h))
                    refine (CJ.out _).mono ?_
                    rintro e w13 ⟨rfl, b13⟩
                    have R13 := Lib.hid (T12.out.on b13)
                    clear b13 T12 CJ
                    cases bJ with
                    | true =>
                      have HV : Hid (VR = .tuple #[noS, .int .i64 (nJ : Nat), .int .i64 280]) := by rw [← hVR.out]; exact parV_bad ((end_J (by rw [hJ.out])).trans hJ.out)
                      have z0 : w13.cell? ⟨w.heap.size, 0, none⟩ = some (.string ⟨#[]⟩) := R13.out.box.cell 0
                      have y0 : w13.frozen? ⟨w.heap.size, 0, none⟩ = false := R13.out.box.frozen 0
                      have z1 : w13.cell? ⟨w.heap.size, 1, none⟩ = some (.int .i64 0) := R13.out.box.cell 1
                      have y1 : w13.frozen? ⟨w.heap.size, 1, none⟩ = false := R13.out.box.frozen 1
                      have z2 : w13.cell? ⟨w.heap.size, 2, none⟩ = some (.int .i64 0) := R13.out.box.cell 2
                      have y2 : w13.frozen? ⟨w.heap.size, 2, none⟩ = false := R13.out.box.frozen 2
                      have z3 : w13.cell? ⟨w.heap.size, 3, none⟩ = some (.string ⟨#[]⟩) := R13.out.box.cell 3
                      have y3 : w13.frozen? ⟨w.heap.size, 3, none⟩ = false := R13.out.box.frozen 3
                      have z4 : w13.cell? ⟨w.heap.size, 4, none⟩ = some (.string ⟨#[]⟩) := R13.out.box.cell 4
                      have y4 : w13.frozen? ⟨w.heap.size, 4, none⟩ = false := R13.out.box.frozen 4
                      have z5 : w13.cell? ⟨w.heap.size, 5, none⟩ = some (.int .i64 0) := R13.out.box.cell 5
                      have y5 : w13.frozen? ⟨w.heap.size, 5, none⟩ = false := R13.out.box.frozen 5
                      have z6 : w13.cell? ⟨w.heap.size, 6, none⟩ = some (.int .i64 0) := R13.out.box.cell 6
                      have y6 : w13.frozen? ⟨w.heap.size, 6, none⟩ = false := R13.out.box.frozen 6
                      have z7 : w13.cell? ⟨w.heap.size, 7, none⟩ = some (.int .i64 0) := R13.out.box.cell 7
                      have y7 : w13.frozen? ⟨w.heap.size, 7, none⟩ = false := R13.out.box.frozen 7
                      go_wp2_with fail
                      all_goals (try (exfalso; omega))
                      obtain ⟨K9, B9⟩ := R13.out.box8 (.string ⟨#[]⟩) (.int .i64 0) (.int .i64 0) (.string ⟨#[]⟩) (.string ⟨#[]⟩) (.int .i64 0) (.int .i64 0) (.int .i64 0)
                      obtain ⟨w9, hw9⟩ := name_it (((((((((w13.setCell ⟨w.heap.size, 0, none⟩ (.string ⟨#[]⟩)).setCell ⟨w.heap.size, 1, none⟩ (.int .i64 0)).setCell ⟨w.heap.size, 2, none⟩ (.int .i64 0)).setCell ⟨w.heap.size, 3, none⟩ (.string ⟨#[]⟩)).setCell ⟨w.heap.size, 4, none⟩ (.string ⟨#[]⟩)).setCell ⟨w.heap.size, 5, none⟩ (.int .i64 0)).setCell ⟨w.heap.size, 6, none⟩ (.int .i64 0)).setCell ⟨w.heap.size, 7, none⟩ (.int .i64 0)))
                      rw [hw9.out] at K9 B9
                      rw [hw9.out]
                      clear z0 y0 z1 y1 z2 y2 z3 y3 z4 y4 z5 y5 z6 y6 z7 y7
                      have f0 : w9.cell? ⟨w.heap.size, 0, none⟩ = some (.string ⟨#[]⟩) := K9.cell 0
                      have f1 : w9.cell? ⟨w.heap.size, 1, none⟩ = some (.int .i64 0) := K9.cell 1
                      have f2 : w9.cell? ⟨w.heap.size, 2, none⟩ = some (.int .i64 0) := K9.cell 2
                      have f3 : w9.cell? ⟨w.heap.size, 3, none⟩ = some (.string ⟨#[]⟩) := K9.cell 3
                      have f4 : w9.cell? ⟨w.heap.size, 4, none⟩ = some (.string ⟨#[]⟩) := K9.cell 4
                      have f5 : w9.cell? ⟨w.heap.size, 5, none⟩ = some (.int .i64 0) := K9.cell 5
                      have f6 : w9.cell? ⟨w.heap.size, 6, none⟩ = some (.int .i64 0) := K9.cell 6
                      have f7 : w9.cell? ⟨w.heap.size, 7, none⟩ = some (.int .i64 0) := K9.cell 7
                      refine bodyPost_ret (v := .tuple #[noS, .int .i64 (nJ : Nat), .int .i64 280]) (by simp [results, Tryz.results16, go_sem, noS, f0, f1, f2, f3, f4, f5, f6, f7]) rfl ?_
                      rw [HV.out]
                      exact ⟨rfl, B9⟩
                    | false =>
                      go_wp2_with fail
                      obtain ⟨⟨tg, nK, bK⟩, hK⟩ := name_it (pK (L s))
                      have lK := le_K (L s)
                      rw [hK.out, L_length] at lK
                      simp only [] at lK
                      have hKt : tgtS (L s) (nJ, false) = (tg, (nK, bK)) := by have h := hK.out; unfold pK at h; rw [hJ.out] at h; exact h
                      have CK := fun wx => rtarget_any s nJ wx lJ hs
                      cases bK with
                      | true =>
                        rw [tgtV_no hKt] at CK
                        replace CK := Lib.hid CK
                        clear hKt
                        have HV : Hid (VR = .tuple #[noS, .int .i64 (nK : Nat), .int .i64 280]) := by rw [← hVR.out]; exact parV_bad ((end_K (by rw [hK.out])).trans (by rw [hK.out]))
                        refine (CK.out _).mono ?_
                        rintro e w14 ⟨rfl, b14⟩
                        have R14 := Lib.hid (R13.out.on b14)
                        clear b14 R13 CK
                        have c : w14.cell? ⟨w.heap.size + 1, 4, none⟩ = some (.string ⟨#[]⟩) := R14.out.ent.cell 4
                        have fz := R14.out.ent.frozen 4
                        have T14 : Hid (RS w (w14.setCell ⟨w.heap.size + 1, 4, none⟩ (.string (bs []))) ⟨((L s).take nA), (((L s).drop nH).take (nI - nH)), [], vC, vE, vG, 0, 0⟩) := R14.out.store 4 (.string (bs [])) _ (rfl)
                        obtain ⟨v14, hv14⟩ : ∃ v, Hid (w14.setCell ⟨w.heap.size + 1, 4, none⟩ (.string (bs [])) = v) := ⟨_, rfl⟩
                        have z0 : (w14.setCell ⟨w.heap.size + 1, 4, none⟩ (.string (bs []))).cell? ⟨w.heap.size, 0, none⟩ = some (.string ⟨#[]⟩) := T14.out.box.cell 0
                        have y0 : (w14.setCell ⟨w.heap.size + 1, 4, none⟩ (.string (bs []))).frozen? ⟨w.heap.size, 0, none⟩ = false := T14.out.box.frozen 0
                        have z1 : (w14.setCell ⟨w.heap.size + 1, 4, none⟩ (.string (bs []))).cell? ⟨w.heap.size, 1, none⟩ = some (.int .i64 0) := T14.out.box.cell 1
                        have y1 : (w14.setCell ⟨w.heap.size + 1, 4, none⟩ (.string (bs []))).frozen? ⟨w.heap.size, 1, none⟩ = false := T14.out.box.frozen 1
                        have z2 : (w14.setCell ⟨w.heap.size + 1, 4, none⟩ (.string (bs []))).cell? ⟨w.heap.size, 2, none⟩ = some (.int .i64 0) := T14.out.box.cell 2
                        have y2 : (w14.setCell ⟨w.heap.size + 1, 4, none⟩ (.string (bs []))).frozen? ⟨w.heap.size, 2, none⟩ = false := T14.out.box.frozen 2
                        have z3 : (w14.setCell ⟨w.heap.size + 1, 4, none⟩ (.string (bs []))).cell? ⟨w.heap.size, 3, none⟩ = some (.string ⟨#[]⟩) := T14.out.box.cell 3
                        have y3 : (w14.setCell ⟨w.heap.size + 1, 4, none⟩ (.string (bs []))).frozen? ⟨w.heap.size, 3, none⟩ = false := T14.out.box.frozen 3
                        have z4 : (w14.setCell ⟨w.heap.size + 1, 4, none⟩ (.string (bs []))).cell? ⟨w.heap.size, 4, none⟩ = some (.string ⟨#[]⟩) := T14.out.box.cell 4
                        have y4 : (w14.setCell ⟨w.heap.size + 1, 4, none⟩ (.string (bs []))).frozen? ⟨w.heap.size, 4, none⟩ = false := T14.out.box.frozen 4
                        have z5 : (w14.setCell ⟨w.heap.size + 1, 4, none⟩ (.string (bs []))).cell? ⟨w.heap.size, 5, none⟩ = some (.int .i64 0) := T14.out.box.cell 5
                        have y5 : (w14.setCell ⟨w.heap.size + 1, 4, none⟩ (.string (bs []))).frozen? ⟨w.heap.size, 5, none⟩ = false := T14.out.box.frozen 5
                        have z6 : (w14.setCell ⟨w.heap.size + 1, 4, none⟩ (.string (bs []))).cell? ⟨w.heap.size, 6, none⟩ = some (.int .i64 0) := T14.out.box.cell 6
                        have y6 : (w14.setCell ⟨w.heap.size + 1, 4, none⟩ (.string (bs []))).frozen? ⟨w.heap.size, 6, none⟩ = false := T14.out.box.frozen 6
                        have z7 : (w14.setCell ⟨w.heap.size + 1, 4, none⟩ (.string (bs []))).cell? ⟨w.heap.size, 7, none⟩ = some (.int .i64 0) := T14.out.box.cell 7
                        have y7 : (w14.setCell ⟨w.heap.size + 1, 4, none⟩ (.string (bs []))).frozen? ⟨w.heap.size, 7, none⟩ = false := T14.out.box.frozen 7
                        go_wp2_with fail
                        all_goals (try (exfalso; omega))
                        rw [hv14.out] at T14
                        rw [hv14.out]
                        obtain ⟨K9, B9⟩ := T14.out.box8 (.string ⟨#[]⟩) (.int .i64 0) (.int .i64 0) (.string ⟨#[]⟩) (.string ⟨#[]⟩) (.int .i64 0) (.int .i64 0) (.int .i64 0)
                        obtain ⟨w9, hw9⟩ := name_it (((((((((v14.setCell ⟨w.heap.size, 0, none⟩ (.string ⟨#[]⟩)).setCell ⟨w.heap.size, 1, none⟩ (.int .i64 0)).setCell ⟨w.heap.size, 2, none⟩ (.int .i64 0)).setCell ⟨w.heap.size, 3, none⟩ (.string ⟨#[]⟩)).setCell ⟨w.heap.size, 4, none⟩ (.string ⟨#[]⟩)).setCell ⟨w.heap.size, 5, none⟩ (.int .i64 0)).setCell ⟨w.heap.size, 6, none⟩ (.int .i64 0)).setCell ⟨w.heap.size, 7, none⟩ (.int .i64 0)))
                        rw [hw9.out] at K9 B9
                        rw [hw9.out]
                        clear z0 y0 z1 y1 z2 y2 z3 y3 z4 y4 z5 y5 z6 y6 z7 y7
                        have f0 : w9.cell? ⟨w.heap.size, 0, none⟩ = some (.string ⟨#[]⟩) := K9.cell 0
                        have f1 : w9.cell? ⟨w.heap.size, 1, none⟩ = some (.int .i64 0) := K9.cell 1
                        have f2 : w9.cell? ⟨w.heap.size, 2, none⟩ = some (.int .i64 0) := K9.cell 2
                        have f3 : w9.cell? ⟨w.heap.size, 3, none⟩ = some (.string ⟨#[]⟩) := K9.cell 3
                        have f4 : w9.cell? ⟨w.heap.size, 4, none⟩ = some (.string ⟨#[]⟩) := K9.cell 4
                        have f5 : w9.cell? ⟨w.heap.size, 5, none⟩ = some (.int .i64 0) := K9.cell 5
                        have f6 : w9.cell? ⟨w.heap.size, 6, none⟩ = some (.int .i64 0) := K9.cell 6
                        have f7 : w9.cell? ⟨w.heap.size, 7, none⟩ = some (.int .i64 0) := K9.cell 7
                        refine bodyPost_ret (v := .tuple #[noS, .int .i64 (nK : Nat), .int .i64 280]) (by simp [results, Tryz.results16, go_sem, noS, f0, f1, f2, f3, f4, f5, f6, f7]) rfl ?_
                        rw [HV.out]
                        exact ⟨rfl, B9⟩
                      | false =>
                        rw [tgtV_yes hKt] at CK
                        replace CK := Lib.hid CK
                        clear hKt
                        have hK2 : Hid ((pK (L s)).2 = (nK, false)) := by unfold Hid; rw [hK.out]
                        refine (CK.out _).mono ?_
                        rintro e w14 ⟨rfl, b14⟩
                        have R14 := Lib.hid (R13.out.on b14)
                        clear b14 R13 CK
                        have c : w14.cell? ⟨w.heap.size + 1, 4, none⟩ = some (.string ⟨#[]⟩) := R14.out.ent.cell 4
                        have fz := R14.out.ent.frozen 4
                        have T14 : Hid (RS w (w14.setCell ⟨w.heap.size + 1, 4, none⟩ (.string (bs tg))) ⟨((L s).take nA), (((L s).drop nH).take (nI - nH)), tg, vC, vE, vG, 0, 0⟩) := R14.out.store 4 (.string (bs tg)) _ (rfl)
                        go_wp2_with fail
                        obtain ⟨v14, hv14⟩ := name_it (w14.setCell ⟨w.heap.size + 1, 4, none⟩ (.string (bs tg)))
                        rw [hv14.out] at T14
                        rw [hv14.out]
                        clear c fz R14 hv14
                        obtain ⟨⟨nL, bL⟩, hL⟩ := name_it (pL (L s))
                        have lL := le_L (L s)
                        rw [hL.out, L_length] at lL
                        simp only [] at lL
                        have CL := Lib.hid (fun wx => rtextS s ⟨#[32]⟩ nK wx lK hs (by decide) nL bL (by have h := hL.out; unfold pL at h; rw [hK2.out] at h; exact h))
                        refine (CL.out _).mono ?_
                        rintro e w15 ⟨rfl, b15⟩
                        have R15 := Lib.hid (T14.out.on b15)
                        clear b15 T14 CL
                        cases bL with
                        | true =>
                          have HV : Hid (VR = .tuple #[noS, .int .i64 (nL : Nat), .int .i64 280]) := by rw [← hVR.out]; exact parV_bad ((end_L (by rw [hL.out])).trans hL.out)
                          have z0 : w15.cell? ⟨w.heap.size, 0, none⟩ = some (.string ⟨#[]⟩) := R15.out.box.cell 0
                          have y0 : w15.frozen? ⟨w.heap.size, 0, none⟩ = false := R15.out.box.frozen 0
                          have z1 : w15.cell? ⟨w.heap.size, 1, none⟩ = some (.int .i64 0) := R15.out.box.cell 1
                          have y1 : w15.frozen? ⟨w.heap.size, 1, none⟩ = false := R15.out.box.frozen 1
                          have z2 : w15.cell? ⟨w.heap.size, 2, none⟩ = some (.int .i64 0) := R15.out.box.cell 2
                          have y2 : w15.frozen? ⟨w.heap.size, 2, none⟩ = false := R15.out.box.frozen 2
                          have z3 : w15.cell? ⟨w.heap.size, 3, none⟩ = some (.string ⟨#[]⟩) := R15.out.box.cell 3
                          have y3 : w15.frozen? ⟨w.heap.size, 3, none⟩ = false := R15.out.box.frozen 3
                          have z4 : w15.cell? ⟨w.heap.size, 4, none⟩ = some (.string ⟨#[]⟩) := R15.out.box.cell 4
                          have y4 : w15.frozen? ⟨w.heap.size, 4, none⟩ = false := R15.out.box.frozen 4
                          have z5 : w15.cell? ⟨w.heap.size, 5, none⟩ = some (.int .i64 0) := R15.out.box.cell 5
                          have y5 : w15.frozen? ⟨w.heap.size, 5, none⟩ = false := R15.out.box.frozen 5
                          have z6 : w15.cell? ⟨w.heap.size, 6, none⟩ = some (.int .i64 0) := R15.out.box.cell 6
                          have y6 : w15.frozen? ⟨w.heap.size, 6, none⟩ = false := R15.out.box.frozen 6
                          have z7 : w15.cell? ⟨w.heap.size, 7, none⟩ = some (.int .i64 0) := R15.out.box.cell 7
                          have y7 : w15.frozen? ⟨w.heap.size, 7, none⟩ = false := R15.out.box.frozen 7
                          go_wp2_with fail
                          all_goals (try (exfalso; omega))
                          obtain ⟨K9, B9⟩ := R15.out.box8 (.string ⟨#[]⟩) (.int .i64 0) (.int .i64 0) (.string ⟨#[]⟩) (.string ⟨#[]⟩) (.int .i64 0) (.int .i64 0) (.int .i64 0)
                          obtain ⟨w9, hw9⟩ := name_it (((((((((w15.setCell ⟨w.heap.size, 0, none⟩ (.string ⟨#[]⟩)).setCell ⟨w.heap.size, 1, none⟩ (.int .i64 0)).setCell ⟨w.heap.size, 2, none⟩ (.int .i64 0)).setCell ⟨w.heap.size, 3, none⟩ (.string ⟨#[]⟩)).setCell ⟨w.heap.size, 4, none⟩ (.string ⟨#[]⟩)).setCell ⟨w.heap.size, 5, none⟩ (.int .i64 0)).setCell ⟨w.heap.size, 6, none⟩ (.int .i64 0)).setCell ⟨w.heap.size, 7, none⟩ (.int .i64 0)))
                          rw [hw9.out] at K9 B9
                          rw [hw9.out]
                          clear z0 y0 z1 y1 z2 y2 z3 y3 z4 y4 z5 y5 z6 y6 z7 y7
                          have f0 : w9.cell? ⟨w.heap.size, 0, none⟩ = some (.string ⟨#[]⟩) := K9.cell 0
                          have f1 : w9.cell? ⟨w.heap.size, 1, none⟩ = some (.int .i64 0) := K9.cell 1
                          have f2 : w9.cell? ⟨w.heap.size, 2, none⟩ = some (.int .i64 0) := K9.cell 2
                          have f3 : w9.cell? ⟨w.heap.size, 3, none⟩ = some (.string ⟨#[]⟩) := K9.cell 3
                          have f4 : w9.cell? ⟨w.heap.size, 4, none⟩ = some (.string ⟨#[]⟩) := K9.cell 4
                          have f5 : w9.cell? ⟨w.heap.size, 5, none⟩ = some (.int .i64 0) := K9.cell 5
                          have f6 : w9.cell? ⟨w.heap.size, 6, none⟩ = some (.int .i64 0) := K9.cell 6
                          have f7 : w9.cell? ⟨w.heap.size, 7, none⟩ = some (.int .i64 0) := K9.cell 7
                          refine bodyPost_ret (v := .tuple #[noS, .int .i64 (nL : Nat), .int .i64 280]) (by simp [results, Tryz.results16, go_sem, noS, f0, f1, f2, f3, f4, f5, f6, f7]) rfl ?_
                          rw [HV.out]
                          exact ⟨rfl, B9⟩
                        | false =>
                          obtain ⟨Q, hQ⟩ := name_it (stK 3 ((L s).drop nL) 0 0)
                          have hMQ : Hid (pM (L s) = (Q.1, (nL + Q.2.1, Q.2.2))) := by
                            unfold pM stS Hid
                            rw [hL.out, if_neg nf]
                            show ((stK 3 ((L s).drop nL) 0 0).1, (nL + (stK 3 ((L s).drop nL) 0 0).2.1, (stK 3 ((L s).drop nL) 0 0).2.2)) = _
                            rw [hQ.out]
                          go_wp2_with fail
                          go_loopw [6, 12] (fun t i wr => ∃ (j : Nat) (x : Int), j ≤ 3 ∧ nL + j ≤ s.size ∧ t = .int .i64 ((nL + j : Nat) : Int) ∧ i = .int .i64 j ∧ 0 ≤ x ∧ (j = 0 → x = 0) ∧ (j = 1 → x ≤ 9) ∧ (j = 2 → x ≤ 99) ∧ x ≤ 999 ∧ Hid (RS w wr ⟨((L s).take nA), (((L s).drop nH).take (nI - nH)), tg, vC, vE, vG, x, 0⟩) ∧ Hid (stK (3 - j) ((L s).drop (nL + j)) x j = Q)) (fun _ i _ => 3 - (intOf i).toNat)
                          case atStart => exact ⟨0, 0, by omega, lL, rfl, rfl, Int.le_refl _, by omega, by omega, by omega, by omega, R15, hQ⟩
                          clear R15 hQ
                          case round =>
                            obtain ⟨j, x, hj, hnj, rfl, rfl, hx0, b0, b1, b2, b3, hR, hq⟩ := hrel
                            obtain ⟨wq, hwq⟩ : ∃ wq, wq = wr := ⟨wr, rfl⟩
                            subst hwq
                            obtain ⟨n, hne2⟩ : ∃ n, n = nL + j := ⟨_, rfl⟩
                            rw [← hne2] at hnj hq ⊢
                            have HN := Lib.hid hne2
                            clear hne2
                            by_cases h3 : j < 3
                            ·
                              have hq2 := hq.out
                              rw [show 3 - j = (3 - (j + 1)) + 1 by omega] at hq2
                              clear hq
                              have HB : Hid (∀ k : Int, Q = (k, j, true) → VR = .tuple #[noS, .int .i64 (n : Nat), .int .i64 280]) := by
                                intro k h
                                have he : (pM (L s)).2 = (n, true) := by rw [hMQ.out, h, HN.out]
                                rw [← hVR.out]; exact parV_bad ((end_M (by rw [he])).trans he)
                              have dj : decide ((j : Int) < 3) = true := decide_eq_true (by omega)
                              have djn : decide (j < 3) = true := decide_eq_true h3
                              have B9x : x ≤ 99 := by omega
                              have HX0 : Hid ((j = 0 → x = 0) ∧ (j = 1 → x ≤ 9) ∧ (j = 2 → x ≤ 99)) := ⟨b0, b1, b2⟩
                              clear b0 b1 b2 b3
                              by_cases h1 : n < s.size
                              ·
                                have e1 : ((n : Int) == (s.size : Int)) = false := by rw [beq_eq_false_iff_ne]; omega
                                have e1n : (n == s.size) = false := by rw [beq_eq_false_iff_ne]; omega
                                have q4 : (0 : Int) ≤ (n : Int) := by omega
                                have q5 : (n : Int) < (s.size : Int) := by omega
                                rw [L_drop h1, stK] at hq2
                                obtain ⟨c, hc⟩ := name_it s[n]
                                have hck := hc.out
                                have HIS := Lib.hid (fun wx => isdigit_any c wx)
                                rw [hc.out] at hq2
                                cases hd : isDig c with
                                | true =>
                                  rw [hd] at HIS
                                  obtain ⟨h4, h5⟩ := of_decide_eq_true (show decide (48 ≤ c.toNat ∧ c.toNat ≤ 57) = true from hd)
                                  by_cases hj0 : j = 0
                                  ·
                                    have ej : ((j : Int) == 0) = true := by rw [beq_iff_eq]; omega
                                    have ejn : (j == 0) = true := by rw [beq_iff_eq]; exact hj0
                                    have HJ0 := Lib.hid hj0
                                    by_cases h67 : 49 ≤ c.toNat ∧ c.toNat ≤ 53
                                    ·
                                      rw [if_neg (show ¬ (isDig c = false ∨ (j = 0 ∧ ¬ (49 ≤ c.toNat ∧ c.toNat ≤ 53))) from fun e => by rcases e with e | e; rw [hd] at e; cases e; exact e.2 h67)] at hq2
                                      have HQ := Lib.hid hq2
                                      clear hq2 HB
                                      go_wp2_with fail
                                      all_goals (try (exfalso; omega))
                                      refine (HIS.out _).mono ?_
                                      rintro e w16 ⟨rfl, rfl⟩
                                      have c5 : wq.cell? ⟨w.heap.size + 1, 5, none⟩ = some (.int .i64 x) := hR.out.ent.cell 5
                                      have fz5 := hR.out.ent.frozen 5
                                      have w1 : IntKind.u8.wrap ((c.toNat : Int) - 48) = (c.toNat : Int) - 48 := IntWalk.u8_in _ (by omega)
                                      have w2i : IntKind.i64.wrap ((c.toNat : Int) - 48) = (c.toNat : Int) - 48 := IntWalk.i64_in _ (by omega)
                                      have w3 : IntKind.i64.wrap (10 * x) = 10 * x := IntWalk.i64_in _ (by omega)
                                      have w4 : IntKind.i64.wrap (10 * x + ((c.toNat : Int) - 48)) = 10 * x + ((c.toNat : Int) - 48) := IntWalk.i64_in _ (by omega)
                                      go_wp2_with fail
                                      all_goals (try (exfalso; omega))
                                      go_region
                                      obtain ⟨D, hD⟩ : ∃ D, (c.toNat : Int) - 48 = D := ⟨_, rfl⟩
                                      have hDg : dg c = D := hD
                                      have hD0 : 0 ≤ D := by omega
                                      have hD9 : D ≤ 9 := by omega
                                      rw [hDg] at HQ
                                      try rw [hD]
                                      clear hDg hD w1 w2i w3 w4 c5 fz5
                                      have T16 : Hid (RS w (wq.setCell ⟨w.heap.size + 1, 5, none⟩ (.int .i64 (10 * x + D))) ⟨((L s).take nA), (((L s).drop nH).take (nI - nH)), tg, vC, vE, vG, (10 * x + D), 0⟩) := hR.out.store 5 _ _ rfl
                                      replace T16 := Lib.hid (T16.out.on (below_drewN (Below.refl _ _) 1))
                                      go_wp2_with fail
                                      all_goals (try (exfalso; omega))
                                      go_roundw
                                      case rel =>
                                        have hh := HN.out
                                        have HX := HX0.out
                                        refine ⟨j + 1, 10 * x + D, by omega, by omega, ?_, by go_num, by omega, by omega, by omega, by omega, by omega, T16, ?_⟩
                                        · rw [show nL + (j + 1) = n + 1 by omega]; go_num
                                        · rw [show nL + (j + 1) = n + 1 by omega]; exact HQ
                                      case measure => simp [intOf]; omega
                                    ·
                                      have h68 : c.toNat < 49 ∨ (49 ≤ c.toNat ∧ 53 < c.toNat) := by omega
                                      have HC : isDig c = false ∨ (j = 0 ∧ ¬ (49 ≤ c.toNat ∧ c.toNat ≤ 53)) := Or.inr ⟨hj0, h67⟩
                                      clear hj0 h67
                                      rcases h68 with h6 | ⟨h6, h7⟩
                                      ·
                                        rw [if_pos (HC)] at hq2
                                        have HV := Lib.hid (HB.out 0 hq2.symm)
                                        clear hq2 HB
                                        go_wp2_with fail
                                        all_goals (try (exfalso; omega))
                                        refine (HIS.out _).mono ?_
                                        rintro e w17 ⟨rfl, rfl⟩
                                        have z0 : wq.cell? ⟨w.heap.size, 0, none⟩ = some (.string ⟨#[]⟩) := hR.out.box.cell 0
                                        have y0 : wq.frozen? ⟨w.heap.size, 0, none⟩ = false := hR.out.box.frozen 0
                                        have z1 : wq.cell? ⟨w.heap.size, 1, none⟩ = some (.int .i64 0) := hR.out.box.cell 1
                                        have y1 : wq.frozen? ⟨w.heap.size, 1, none⟩ = false := hR.out.box.frozen 1
                                        have z2 : wq.cell? ⟨w.heap.size, 2, none⟩ = some (.int .i64 0) := hR.out.box.cell 2
                                        have y2 : wq.frozen? ⟨w.heap.size, 2, none⟩ = false := hR.out.box.frozen 2
                                        have z3 : wq.cell? ⟨w.heap.size, 3, none⟩ = some (.string ⟨#[]⟩) := hR.out.box.cell 3
                                        have y3 : wq.frozen? ⟨w.heap.size, 3, none⟩ = false := hR.out.box.frozen 3
                                        have z4 : wq.cell? ⟨w.heap.size, 4, none⟩ = some (.string ⟨#[]⟩) := hR.out.box.cell 4
                                        have y4 : wq.frozen? ⟨w.heap.size, 4, none⟩ = false := hR.out.box.frozen 4
                                        have z5 : wq.cell? ⟨w.heap.size, 5, none⟩ = some (.int .i64 0) := hR.out.box.cell 5
                                        have y5 : wq.frozen? ⟨w.heap.size, 5, none⟩ = false := hR.out.box.frozen 5
                                        have z6 : wq.cell? ⟨w.heap.size, 6, none⟩ = some (.int .i64 0) := hR.out.box.cell 6
                                        have y6 : wq.frozen? ⟨w.heap.size, 6, none⟩ = false := hR.out.box.frozen 6
                                        have z7 : wq.cell? ⟨w.heap.size, 7, none⟩ = some (.int .i64 0) := hR.out.box.cell 7
                                        have y7 : wq.frozen? ⟨w.heap.size, 7, none⟩ = false := hR.out.box.frozen 7
                                        go_wp2_with fail
                                        all_goals (try (exfalso; omega))
                                        obtain ⟨K9, B9⟩ := hR.out.box8 (.string ⟨#[]⟩) (.int .i64 0) (.int .i64 0) (.string ⟨#[]⟩) (.string ⟨#[]⟩) (.int .i64 0) (.int .i64 0) (.int .i64 0)
                                        obtain ⟨w9, hw9⟩ := name_it (((((((((wq.setCell ⟨w.heap.size, 0, none⟩ (.string ⟨#[]⟩)).setCell ⟨w.heap.size, 1, none⟩ (.int .i64 0)).setCell ⟨w.heap.size, 2, none⟩ (.int .i64 0)).setCell ⟨w.heap.size, 3, none⟩ (.string ⟨#[]⟩)).setCell ⟨w.heap.size, 4, none⟩ (.string ⟨#[]⟩)).setCell ⟨w.heap.size, 5, none⟩ (.int .i64 0)).setCell ⟨w.heap.size, 6, none⟩ (.int .i64 0)).setCell ⟨w.heap.size, 7, none⟩ (.int .i64 0)))
                                        rw [hw9.out] at K9 B9
                                        rw [hw9.out]
                                        clear z0 y0 z1 y1 z2 y2 z3 y3 z4 y4 z5 y5 z6 y6 z7 y7
                                        have f0 : w9.cell? ⟨w.heap.size, 0, none⟩ = some (.string ⟨#[]⟩) := K9.cell 0
                                        have f1 : w9.cell? ⟨w.heap.size, 1, none⟩ = some (.int .i64 0) := K9.cell 1
                                        have f2 : w9.cell? ⟨w.heap.size, 2, none⟩ = some (.int .i64 0) := K9.cell 2
                                        have f3 : w9.cell? ⟨w.heap.size, 3, none⟩ = some (.string ⟨#[]⟩) := K9.cell 3
                                        have f4 : w9.cell? ⟨w.heap.size, 4, none⟩ = some (.string ⟨#[]⟩) := K9.cell 4
                                        have f5 : w9.cell? ⟨w.heap.size, 5, none⟩ = some (.int .i64 0) := K9.cell 5
                                        have f6 : w9.cell? ⟨w.heap.size, 6, none⟩ = some (.int .i64 0) := K9.cell 6
                                        have f7 : w9.cell? ⟨w.heap.size, 7, none⟩ = some (.int .i64 0) := K9.cell 7
                                        refine bodyPost_ret (v := .tuple #[noS, .int .i64 (n : Nat), .int .i64 280]) (by simp [results, Tryz.results16, go_sem, noS, f0, f1, f2, f3, f4, f5, f6, f7]) rfl ?_
                                        rw [HV.out]
                                        exact ⟨rfl, B9⟩
                                      ·
                                        rw [if_pos (HC)] at hq2
                                        have HV := Lib.hid (HB.out 0 hq2.symm)
                                        clear hq2 HB
                                        go_wp2_with fail
                                        all_goals (try (exfalso; omega))
                                        refine (HIS.out _).mono ?_
                                        rintro e w18 ⟨rfl, rfl⟩
                                        have z0 : wq.cell? ⟨w.heap.size, 0, none⟩ = some (.string ⟨#[]⟩) := hR.out.box.cell 0
                                        have y0 : wq.frozen? ⟨w.heap.size, 0, none⟩ = false := hR.out.box.frozen 0
                                        have z1 : wq.cell? ⟨w.heap.size, 1, none⟩ = some (.int .i64 0) := hR.out.box.cell 1
                                        have y1 : wq.frozen? ⟨w.heap.size, 1, none⟩ = false := hR.out.box.frozen 1
                                        have z2 : wq.cell? ⟨w.heap.size, 2, none⟩ = some (.int .i64 0) := hR.out.box.cell 2
                                        have y2 : wq.frozen? ⟨w.heap.size, 2, none⟩ = false := hR.out.box.frozen 2
                                        have z3 : wq.cell? ⟨w.heap.size, 3, none⟩ = some (.string ⟨#[]⟩) := hR.out.box.cell 3
                                        have y3 : wq.frozen? ⟨w.heap.size, 3, none⟩ = false := hR.out.box.frozen 3
                                        have z4 : wq.cell? ⟨w.heap.size, 4, none⟩ = some (.string ⟨#[]⟩) := hR.out.box.cell 4
                                        have y4 : wq.frozen? ⟨w.heap.size, 4, none⟩ = false := hR.out.box.frozen 4
                                        have z5 : wq.cell? ⟨w.heap.size, 5, none⟩ = some (.int .i64 0) := hR.out.box.cell 5
                                        have y5 : wq.frozen? ⟨w.heap.size, 5, none⟩ = false := hR.out.box.frozen 5
                                        have z6 : wq.cell? ⟨w.heap.size, 6, none⟩ = some (.int .i64 0) := hR.out.box.cell 6
                                        have y6 : wq.frozen? ⟨w.heap.size, 6, none⟩ = false := hR.out.box.frozen 6
                                        have z7 : wq.cell? ⟨w.heap.size, 7, none⟩ = some (.int .i64 0) := hR.out.box.cell 7
                                        have y7 : wq.frozen? ⟨w.heap.size, 7, none⟩ = false := hR.out.box.frozen 7
                                        go_wp2_with fail
                                        all_goals (try (exfalso; omega))
                                        obtain ⟨K9, B9⟩ := hR.out.box8 (.string ⟨#[]⟩) (.int .i64 0) (.int .i64 0) (.string ⟨#[]⟩) (.string ⟨#[]⟩) (.int .i64 0) (.int .i64 0) (.int .i64 0)
                                        obtain ⟨w9, hw9⟩ := name_it (((((((((wq.setCell ⟨w.heap.size, 0, none⟩ (.string ⟨#[]⟩)).setCell ⟨w.heap.size, 1, none⟩ (.int .i64 0)).setCell ⟨w.heap.size, 2, none⟩ (.int .i64 0)).setCell ⟨w.heap.size, 3, none⟩ (.string ⟨#[]⟩)).setCell ⟨w.heap.size, 4, none⟩ (.string ⟨#[]⟩)).setCell ⟨w.heap.size, 5, none⟩ (.int .i64 0)).setCell ⟨w.heap.size, 6, none⟩ (.int .i64 0)).setCell ⟨w.heap.size, 7, none⟩ (.int .i64 0)))
                                        rw [hw9.out] at K9 B9
                                        rw [hw9.out]
                                        clear z0 y0 z1 y1 z2 y2 z3 y3 z4 y4 z5 y5 z6 y6 z7 y7
                                        have f0 : w9.cell? ⟨w.heap.size, 0, none⟩ = some (.string ⟨#[]⟩) := K9.cell 0
                                        have f1 : w9.cell? ⟨w.heap.size, 1, none⟩ = some (.int .i64 0) := K9.cell 1
                                        have f2 : w9.cell? ⟨w.heap.size, 2, none⟩ = some (.int .i64 0) := K9.cell 2
                                        have f3 : w9.cell? ⟨w.heap.size, 3, none⟩ = some (.string ⟨#[]⟩) := K9.cell 3
                                        have f4 : w9.cell? ⟨w.heap.size, 4, none⟩ = some (.string ⟨#[]⟩) := K9.cell 4
                                        have f5 : w9.cell? ⟨w.heap.size, 5, none⟩ = some (.int .i64 0) := K9.cell 5
                                        have f6 : w9.cell? ⟨w.heap.size, 6, none⟩ = some (.int .i64 0) := K9.cell 6
                                        have f7 : w9.cell? ⟨w.heap.size, 7, none⟩ = some (.int .i64 0) := K9.cell 7
                                        refine bodyPost_ret (v := .tuple #[noS, .int .i64 (n : Nat), .int .i64 280]) (by simp [results, Tryz.results16, go_sem, noS, f0, f1, f2, f3, f4, f5, f6, f7]) rfl ?_
                                        rw [HV.out]
                                        exact ⟨rfl, B9⟩
                                  ·
                                    have ej : ((j : Int) == 0) = false := by rw [beq_eq_false_iff_ne]; omega
                                    have ejn : (j == 0) = false := by rw [beq_eq_false_iff_ne]; exact hj0
                                    rw [if_neg (show ¬ (isDig c = false ∨ (j = 0 ∧ ¬ (49 ≤ c.toNat ∧ c.toNat ≤ 53))) from fun e => by rcases e with e | e; rw [hd] at e; cases e; exact hj0 e.1)] at hq2
                                    have HQ := Lib.hid hq2
                                    clear hq2 HB
                                    go_wp2_with fail
                                    all_goals (try (exfalso; omega))
                                    refine (HIS.out _).mono ?_
                                    rintro e w19 ⟨rfl, rfl⟩
                                    have c5 : wq.cell? ⟨w.heap.size + 1, 5, none⟩ = some (.int .i64 x) := hR.out.ent.cell 5
                                    have fz5 := hR.out.ent.frozen 5
                                    have w1 : IntKind.u8.wrap ((c.toNat : Int) - 48) = (c.toNat : Int) - 48 := IntWalk.u8_in _ (by omega)
                                    have w2i : IntKind.i64.wrap ((c.toNat : Int) - 48) = (c.toNat : Int) - 48 := IntWalk.i64_in _ (by omega)
                                    have w3 : IntKind.i64.wrap (10 * x) = 10 * x := IntWalk.i64_in _ (by omega)
                                    have w4 : IntKind.i64.wrap (10 * x + ((c.toNat : Int) - 48)) = 10 * x + ((c.toNat : Int) - 48) := IntWalk.i64_in _ (by omega)
                                    go_wp2_with fail
                                    all_goals (try (exfalso; omega))
                                    go_region
                                    obtain ⟨D, hD⟩ : ∃ D, (c.toNat : Int) - 48 = D := ⟨_, rfl⟩
                                    have hDg : dg c = D := hD
                                    have hD0 : 0 ≤ D := by omega
                                    have hD9 : D ≤ 9 := by omega
                                    rw [hDg] at HQ
                                    try rw [hD]
                                    clear hDg hD w1 w2i w3 w4 c5 fz5
                                    have T19 : Hid (RS w (wq.setCell ⟨w.heap.size + 1, 5, none⟩ (.int .i64 (10 * x + D))) ⟨((L s).take nA), (((L s).drop nH).take (nI - nH)), tg, vC, vE, vG, (10 * x + D), 0⟩) := hR.out.store 5 _ _ rfl
                                    replace T19 := Lib.hid (T19.out.on (below_drewN (Below.refl _ _) 1))
                                    go_wp2_with fail
                                    all_goals (try (exfalso; omega))
                                    go_roundw
                                    case rel =>
                                      have hh := HN.out
                                      have HX := HX0.out
                                      refine ⟨j + 1, 10 * x + D, by omega, by omega, ?_, by go_num, by omega, by omega, by omega, by omega, by omega, T19, ?_⟩
                                      · rw [show nL + (j + 1) = n + 1 by omega]; go_num
                                      · rw [show nL + (j + 1) = n + 1 by omega]; exact HQ
                                    case measure => simp [intOf]; omega
                                | false =>
                                  rw [hd] at HIS
                                  have HC : isDig c = false ∨ (j = 0 ∧ ¬ (49 ≤ c.toNat ∧ c.toNat ≤ 53)) := Or.inl hd
                                  rw [if_pos (HC)] at hq2
                                  have HV := Lib.hid (HB.out 0 hq2.symm)
                                  clear hq2 HB
                                  go_wp2_with fail
                                  all_goals (try (exfalso; omega))
                                  refine (HIS.out _).mono ?_
                                  rintro e w20 ⟨rfl, rfl⟩
                                  have z0 : wq.cell? ⟨w.heap.size, 0, none⟩ = some (.string ⟨#[]⟩) := hR.out.box.cell 0
                                  have y0 : wq.frozen? ⟨w.heap.size, 0, none⟩ = false := hR.out.box.frozen 0
                                  have z1 : wq.cell? ⟨w.heap.size, 1, none⟩ = some (.int .i64 0) := hR.out.box.cell 1
                                  have y1 : wq.frozen? ⟨w.heap.size, 1, none⟩ = false := hR.out.box.frozen 1
                                  have z2 : wq.cell? ⟨w.heap.size, 2, none⟩ = some (.int .i64 0) := hR.out.box.cell 2
                                  have y2 : wq.frozen? ⟨w.heap.size, 2, none⟩ = false := hR.out.box.frozen 2
                                  have z3 : wq.cell? ⟨w.heap.size, 3, none⟩ = some (.string ⟨#[]⟩) := hR.out.box.cell 3
                                  have y3 : wq.frozen? ⟨w.heap.size, 3, none⟩ = false := hR.out.box.frozen 3
                                  have z4 : wq.cell? ⟨w.heap.size, 4, none⟩ = some (.string ⟨#[]⟩) := hR.out.box.cell 4
                                  have y4 : wq.frozen? ⟨w.heap.size, 4, none⟩ = false := hR.out.box.frozen 4
                                  have z5 : wq.cell? ⟨w.heap.size, 5, none⟩ = some (.int .i64 0) := hR.out.box.cell 5
                                  have y5 : wq.frozen? ⟨w.heap.size, 5, none⟩ = false := hR.out.box.frozen 5
                                  have z6 : wq.cell? ⟨w.heap.size, 6, none⟩ = some (.int .i64 0) := hR.out.box.cell 6
                                  have y6 : wq.frozen? ⟨w.heap.size, 6, none⟩ = false := hR.out.box.frozen 6
                                  have z7 : wq.cell? ⟨w.heap.size, 7, none⟩ = some (.int .i64 0) := hR.out.box.cell 7
                                  have y7 : wq.frozen? ⟨w.heap.size, 7, none⟩ = false := hR.out.box.frozen 7
                                  go_wp2_with fail
                                  all_goals (try (exfalso; omega))
                                  obtain ⟨K9, B9⟩ := hR.out.box8 (.string ⟨#[]⟩) (.int .i64 0) (.int .i64 0) (.string ⟨#[]⟩) (.string ⟨#[]⟩) (.int .i64 0) (.int .i64 0) (.int .i64 0)
                                  obtain ⟨w9, hw9⟩ := name_it (((((((((wq.setCell ⟨w.heap.size, 0, none⟩ (.string ⟨#[]⟩)).setCell ⟨w.heap.size, 1, none⟩ (.int .i64 0)).setCell ⟨w.heap.size, 2, none⟩ (.int .i64 0)).setCell ⟨w.heap.size, 3, none⟩ (.string ⟨#[]⟩)).setCell ⟨w.heap.size, 4, none⟩ (.string ⟨#[]⟩)).setCell ⟨w.heap.size, 5, none⟩ (.int .i64 0)).setCell ⟨w.heap.size, 6, none⟩ (.int .i64 0)).setCell ⟨w.heap.size, 7, none⟩ (.int .i64 0)))
                                  rw [hw9.out] at K9 B9
                                  rw [hw9.out]
                                  clear z0 y0 z1 y1 z2 y2 z3 y3 z4 y4 z5 y5 z6 y6 z7 y7
                                  have f0 : w9.cell? ⟨w.heap.size, 0, none⟩ = some (.string ⟨#[]⟩) := K9.cell 0
                                  have f1 : w9.cell? ⟨w.heap.size, 1, none⟩ = some (.int .i64 0) := K9.cell 1
                                  have f2 : w9.cell? ⟨w.heap.size, 2, none⟩ = some (.int .i64 0) := K9.cell 2
                                  have f3 : w9.cell? ⟨w.heap.size, 3, none⟩ = some (.string ⟨#[]⟩) := K9.cell 3
                                  have f4 : w9.cell? ⟨w.heap.size, 4, none⟩ = some (.string ⟨#[]⟩) := K9.cell 4
                                  have f5 : w9.cell? ⟨w.heap.size, 5, none⟩ = some (.int .i64 0) := K9.cell 5
                                  have f6 : w9.cell? ⟨w.heap.size, 6, none⟩ = some (.int .i64 0) := K9.cell 6
                                  have f7 : w9.cell? ⟨w.heap.size, 7, none⟩ = some (.int .i64 0) := K9.cell 7
                                  refine bodyPost_ret (v := .tuple #[noS, .int .i64 (n : Nat), .int .i64 280]) (by simp [results, Tryz.results16, go_sem, noS, f0, f1, f2, f3, f4, f5, f6, f7]) rfl ?_
                                  rw [HV.out]
                                  exact ⟨rfl, B9⟩
                              ·
                                have hns : n = s.size := by omega
                                rw [List.drop_of_length_le (by rw [L_length]; omega), stK] at hq2
                                have HV := Lib.hid (HB.out 0 hq2.symm)
                                clear hq2 HB h1
                                have e1 : ((n : Int) == (s.size : Int)) = true := by rw [hns]; exact beq_self_eq_true _
                                have e1n : (n == s.size) = true := by rw [hns]; exact beq_self_eq_true _
                                clear hns
                                have z0 : wq.cell? ⟨w.heap.size, 0, none⟩ = some (.string ⟨#[]⟩) := hR.out.box.cell 0
                                have y0 : wq.frozen? ⟨w.heap.size, 0, none⟩ = false := hR.out.box.frozen 0
                                have z1 : wq.cell? ⟨w.heap.size, 1, none⟩ = some (.int .i64 0) := hR.out.box.cell 1
                                have y1 : wq.frozen? ⟨w.heap.size, 1, none⟩ = false := hR.out.box.frozen 1
                                have z2 : wq.cell? ⟨w.heap.size, 2, none⟩ = some (.int .i64 0) := hR.out.box.cell 2
                                have y2 : wq.frozen? ⟨w.heap.size, 2, none⟩ = false := hR.out.box.frozen 2
                                have z3 : wq.cell? ⟨w.heap.size, 3, none⟩ = some (.string ⟨#[]⟩) := hR.out.box.cell 3
                                have y3 : wq.frozen? ⟨w.heap.size, 3, none⟩ = false := hR.out.box.frozen 3
                                have z4 : wq.cell? ⟨w.heap.size, 4, none⟩ = some (.string ⟨#[]⟩) := hR.out.box.cell 4
                                have y4 : wq.frozen? ⟨w.heap.size, 4, none⟩ = false := hR.out.box.frozen 4
                                have z5 : wq.cell? ⟨w.heap.size, 5, none⟩ = some (.int .i64 0) := hR.out.box.cell 5
                                have y5 : wq.frozen? ⟨w.heap.size, 5, none⟩ = false := hR.out.box.frozen 5
                                have z6 : wq.cell? ⟨w.heap.size, 6, none⟩ = some (.int .i64 0) := hR.out.box.cell 6
                                have y6 : wq.frozen? ⟨w.heap.size, 6, none⟩ = false := hR.out.box.frozen 6
                                have z7 : wq.cell? ⟨w.heap.size, 7, none⟩ = some (.int .i64 0) := hR.out.box.cell 7
                                have y7 : wq.frozen? ⟨w.heap.size, 7, none⟩ = false := hR.out.box.frozen 7
                                go_wp2_with fail
                                all_goals (try (exfalso; omega))
                                obtain ⟨K9, B9⟩ := hR.out.box8 (.string ⟨#[]⟩) (.int .i64 0) (.int .i64 0) (.string ⟨#[]⟩) (.string ⟨#[]⟩) (.int .i64 0) (.int .i64 0) (.int .i64 0)
                                obtain ⟨w9, hw9⟩ := name_it (((((((((wq.setCell ⟨w.heap.size, 0, none⟩ (.string ⟨#[]⟩)).setCell ⟨w.heap.size, 1, none⟩ (.int .i64 0)).setCell ⟨w.heap.size, 2, none⟩ (.int .i64 0)).setCell ⟨w.heap.size, 3, none⟩ (.string ⟨#[]⟩)).setCell ⟨w.heap.size, 4, none⟩ (.string ⟨#[]⟩)).setCell ⟨w.heap.size, 5, none⟩ (.int .i64 0)).setCell ⟨w.heap.size, 6, none⟩ (.int .i64 0)).setCell ⟨w.heap.size, 7, none⟩ (.int .i64 0)))
                                rw [hw9.out] at K9 B9
                                rw [hw9.out]
                                clear z0 y0 z1 y1 z2 y2 z3 y3 z4 y4 z5 y5 z6 y6 z7 y7
                                have f0 : w9.cell? ⟨w.heap.size, 0, none⟩ = some (.string ⟨#[]⟩) := K9.cell 0
                                have f1 : w9.cell? ⟨w.heap.size, 1, none⟩ = some (.int .i64 0) := K9.cell 1
                                have f2 : w9.cell? ⟨w.heap.size, 2, none⟩ = some (.int .i64 0) := K9.cell 2
                                have f3 : w9.cell? ⟨w.heap.size, 3, none⟩ = some (.string ⟨#[]⟩) := K9.cell 3
                                have f4 : w9.cell? ⟨w.heap.size, 4, none⟩ = some (.string ⟨#[]⟩) := K9.cell 4
                                have f5 : w9.cell? ⟨w.heap.size, 5, none⟩ = some (.int .i64 0) := K9.cell 5
                                have f6 : w9.cell? ⟨w.heap.size, 6, none⟩ = some (.int .i64 0) := K9.cell 6
                                have f7 : w9.cell? ⟨w.heap.size, 7, none⟩ = some (.int .i64 0) := K9.cell 7
                                refine bodyPost_ret (v := .tuple #[noS, .int .i64 (n : Nat), .int .i64 280]) (by simp [results, Tryz.results16, go_sem, noS, f0, f1, f2, f3, f4, f5, f6, f7]) rfl ?_
                                rw [HV.out]
                                exact ⟨rfl, B9⟩
                            ·
                              obtain rfl : j = 3 := by omega
                              have hM : Hid (pM (L s) = (x, (n, false))) := by
                                have h1 := hq.out
                                rw [show 3 - 3 = 0 from rfl, stK] at h1
                                unfold Hid
                                rw [hMQ.out, ← h1, HN.out]
                              have hM2 : Hid ((pM (L s)).2 = (n, false)) := by unfold Hid; rw [hM.out]
                              have lM := hnj
                              clear hq hMQ b0 b1 b2 b3
                              obtain ⟨nM, hnM⟩ : ∃ m, m = n := ⟨_, rfl⟩
                              subst hnM
                              go_wp2_with fail
                              obtain ⟨⟨nN, bN⟩, hN⟩ := name_it (pN (L s))
                              have lN := le_N (L s)
                              rw [hN.out, L_length] at lN
                              simp only [] at lN
                              have CN := Lib.hid (fun wx => rtextS s ⟨#[32]⟩ nM wx lM hs (by decide) nN bN (by have h := hN.out; unfold pN at h; rw [hM2.out] at h; exact h))
                              refine (CN.out _).mono ?_
                              rintro e w21 ⟨rfl, b21⟩
                              have R21 := Lib.hid (hR.out.on b21)
                              clear b21 hR CN
                              cases bN with
                              | true =>
                                have HV : Hid (VR = .tuple #[noS, .int .i64 (nN : Nat), .int .i64 280]) := by rw [← hVR.out]; exact parV_bad ((end_N (by rw [hN.out])).trans hN.out)
                                have z0 : w21.cell? ⟨w.heap.size, 0, none⟩ = some (.string ⟨#[]⟩) := R21.out.box.cell 0
                                have y0 : w21.frozen? ⟨w.heap.size, 0, none⟩ = false := R21.out.box.frozen 0
                                have z1 : w21.cell? ⟨w.heap.size, 1, none⟩ = some (.int .i64 0) := R21.out.box.cell 1
                                have y1 : w21.frozen? ⟨w.heap.size, 1, none⟩ = false := R21.out.box.frozen 1
                                have z2 : w21.cell? ⟨w.heap.size, 2, none⟩ = some (.int .i64 0) := R21.out.box.cell 2
                                have y2 : w21.frozen? ⟨w.heap.size, 2, none⟩ = false := R21.out.box.frozen 2
                                have z3 : w21.cell? ⟨w.heap.size, 3, none⟩ = some (.string ⟨#[]⟩) := R21.out.box.cell 3
                                have y3 : w21.frozen? ⟨w.heap.size, 3, none⟩ = false := R21.out.box.frozen 3
                                have z4 : w21.cell? ⟨w.heap.size, 4, none⟩ = some (.string ⟨#[]⟩) := R21.out.box.cell 4
                                have y4 : w21.frozen? ⟨w.heap.size, 4, none⟩ = false := R21.out.box.frozen 4
                                have z5 : w21.cell? ⟨w.heap.size, 5, none⟩ = some (.int .i64 0) := R21.out.box.cell 5
                                have y5 : w21.frozen? ⟨w.heap.size, 5, none⟩ = false := R21.out.box.frozen 5
                                have z6 : w21.cell? ⟨w.heap.size, 6, none⟩ = some (.int .i64 0) := R21.out.box.cell 6
                                have y6 : w21.frozen? ⟨w.heap.size, 6, none⟩ = false := R21.out.box.frozen 6
                                have z7 : w21.cell? ⟨w.heap.size, 7, none⟩ = some (.int .i64 0) := R21.out.box.cell 7
                                have y7 : w21.frozen? ⟨w.heap.size, 7, none⟩ = false := R21.out.box.frozen 7
                                go_wp2_with fail
                                all_goals (try (exfalso; omega))
                                obtain ⟨K9, B9⟩ := R21.out.box8 (.string ⟨#[]⟩) (.int .i64 0) (.int .i64 0) (.string ⟨#[]⟩) (.string ⟨#[]⟩) (.int .i64 0) (.int .i64 0) (.int .i64 0)
                                obtain ⟨w9, hw9⟩ := name_it (((((((((w21.setCell ⟨w.heap.size, 0, none⟩ (.string ⟨#[]⟩)).setCell ⟨w.heap.size, 1, none⟩ (.int .i64 0)).setCell ⟨w.heap.size, 2, none⟩ (.int .i64 0)).setCell ⟨w.heap.size, 3, none⟩ (.string ⟨#[]⟩)).setCell ⟨w.heap.size, 4, none⟩ (.string ⟨#[]⟩)).setCell ⟨w.heap.size, 5, none⟩ (.int .i64 0)).setCell ⟨w.heap.size, 6, none⟩ (.int .i64 0)).setCell ⟨w.heap.size, 7, none⟩ (.int .i64 0)))
                                rw [hw9.out] at K9 B9
                                rw [hw9.out]
                                clear z0 y0 z1 y1 z2 y2 z3 y3 z4 y4 z5 y5 z6 y6 z7 y7
                                have f0 : w9.cell? ⟨w.heap.size, 0, none⟩ = some (.string ⟨#[]⟩) := K9.cell 0
                                have f1 : w9.cell? ⟨w.heap.size, 1, none⟩ = some (.int .i64 0) := K9.cell 1
                                have f2 : w9.cell? ⟨w.heap.size, 2, none⟩ = some (.int .i64 0) := K9.cell 2
                                have f3 : w9.cell? ⟨w.heap.size, 3, none⟩ = some (.string ⟨#[]⟩) := K9.cell 3
                                have f4 : w9.cell? ⟨w.heap.size, 4, none⟩ = some (.string ⟨#[]⟩) := K9.cell 4
                                have f5 : w9.cell? ⟨w.heap.size, 5, none⟩ = some (.int .i64 0) := K9.cell 5
                                have f6 : w9.cell? ⟨w.heap.size, 6, none⟩ = some (.int .i64 0) := K9.cell 6
                                have f7 : w9.cell? ⟨w.heap.size, 7, none⟩ = some (.int .i64 0) := K9.cell 7
                                refine bodyPost_ret (v := .tuple #[noS, .int .i64 (nN : Nat), .int .i64 280]) (by simp [results, Tryz.results16, go_sem, noS, f0, f1, f2, f3, f4, f5, f6, f7]) rfl ?_
                                rw [HV.out]
                                exact ⟨rfl, B9⟩
                              | false =>
                                go_wp2_with fail
                                obtain ⟨⟨vO, nO⟩, qO⟩ := name_it (numP (L s) nN)
                                have hsp := numP_spec (L s) nN (by rw [L_length]; exact lN)
                                have hle := (numP_le (L s) nN (by rw [L_length]; exact lN)).2
                                rw [qO.out] at hsp hle
                                rw [L_length] at hle
                                simp only [] at hsp hle
                                have CO := fun wx => rnumP_any s nN wx lN hs vO nO qO.out
                                rcases hsp with ⟨h1, h2⟩ | ⟨h1, h2⟩ | ⟨h1, h2, c, h3, h4⟩
                                ·
                                  rw [decide_eq_false (by omega)] at CO
                                  replace CO := Lib.hid CO
                                  have he : Hid ((pO (L s)).2 = (nN, true)) := by unfold pO Hid; rw [hN.out]; exact h2
                                  have HV : Hid (VR = .tuple #[noS, .int .i64 (nO : Nat), .int .i64 280]) := by rw [← hVR.out]; exact parV_bad (by rw [h1]; exact he.out)
                                  clear h1 h2
                                  refine (CO.out _).mono ?_
                                  rintro e w22 ⟨rfl, b22⟩
                                  have R22 := Lib.hid (R21.out.on b22)
                                  clear b22 R21 CO he
                                  have c : w22.cell? ⟨w.heap.size + 1, 6, none⟩ = some (.int .i64 0) := R22.out.ent.cell 6
                                  have fz := R22.out.ent.frozen 6
                                  have T22 : Hid (RS w (w22.setCell ⟨w.heap.size + 1, 6, none⟩ (.int .i64 vO)) ⟨((L s).take nA), (((L s).drop nH).take (nI - nH)), tg, vC, vE, vG, x, vO⟩) := R22.out.store 6 (.int .i64 vO) _ (rfl)
                                  obtain ⟨v22, hv22⟩ : ∃ v, Hid (w22.setCell ⟨w.heap.size + 1, 6, none⟩ (.int .i64 vO) = v) := ⟨_, rfl⟩
                                  have z0 : (w22.setCell ⟨w.heap.size + 1, 6, none⟩ (.int .i64 vO)).cell? ⟨w.heap.size, 0, none⟩ = some (.string ⟨#[]⟩) := T22.out.box.cell 0
                                  have y0 : (w22.setCell ⟨w.heap.size + 1, 6, none⟩ (.int .i64 vO)).frozen? ⟨w.heap.size, 0, none⟩ = false := T22.out.box.frozen 0
                                  have z1 : (w22.setCell ⟨w.heap.size + 1, 6, none⟩ (.int .i64 vO)).cell? ⟨w.heap.size, 1, none⟩ = some (.int .i64 0) := T22.out.box.cell 1
                                  have y1 : (w22.setCell ⟨w.heap.size + 1, 6, none⟩ (.int .i64 vO)).frozen? ⟨w.heap.size, 1, none⟩ = false := T22.out.box.frozen 1
                                  have z2 : (w22.setCell ⟨w.heap.size + 1, 6, none⟩ (.int .i64 vO)).cell? ⟨w.heap.size, 2, none⟩ = some (.int .i64 0) := T22.out.box.cell 2
                                  have y2 : (w22.setCell ⟨w.heap.size + 1, 6, none⟩ (.int .i64 vO)).frozen? ⟨w.heap.size, 2, none⟩ = false := T22.out.box.frozen 2
                                  have z3 : (w22.setCell ⟨w.heap.size + 1, 6, none⟩ (.int .i64 vO)).cell? ⟨w.heap.size, 3, none⟩ = some (.string ⟨#[]⟩) := T22.out.box.cell 3
                                  have y3 : (w22.setCell ⟨w.heap.size + 1, 6, none⟩ (.int .i64 vO)).frozen? ⟨w.heap.size, 3, none⟩ = false := T22.out.box.frozen 3
                                  have z4 : (w22.setCell ⟨w.heap.size + 1, 6, none⟩ (.int .i64 vO)).cell? ⟨w.heap.size, 4, none⟩ = some (.string ⟨#[]⟩) := T22.out.box.cell 4
                                  have y4 : (w22.setCell ⟨w.heap.size + 1, 6, none⟩ (.int .i64 vO)).frozen? ⟨w.heap.size, 4, none⟩ = false := T22.out.box.frozen 4
                                  have z5 : (w22.setCell ⟨w.heap.size + 1, 6, none⟩ (.int .i64 vO)).cell? ⟨w.heap.size, 5, none⟩ = some (.int .i64 0) := T22.out.box.cell 5
                                  have y5 : (w22.setCell ⟨w.heap.size + 1, 6, none⟩ (.int .i64 vO)).frozen? ⟨w.heap.size, 5, none⟩ = false := T22.out.box.frozen 5
                                  have z6 : (w22.setCell ⟨w.heap.size + 1, 6, none⟩ (.int .i64 vO)).cell? ⟨w.heap.size, 6, none⟩ = some (.int .i64 0) := T22.out.box.cell 6
                                  have y6 : (w22.setCell ⟨w.heap.size + 1, 6, none⟩ (.int .i64 vO)).frozen? ⟨w.heap.size, 6, none⟩ = false := T22.out.box.frozen 6
                                  have z7 : (w22.setCell ⟨w.heap.size + 1, 6, none⟩ (.int .i64 vO)).cell? ⟨w.heap.size, 7, none⟩ = some (.int .i64 0) := T22.out.box.cell 7
                                  have y7 : (w22.setCell ⟨w.heap.size + 1, 6, none⟩ (.int .i64 vO)).frozen? ⟨w.heap.size, 7, none⟩ = false := T22.out.box.frozen 7
                                  go_wp2_with fail
                                  all_goals (try (exfalso; omega))
                                  rw [hv22.out] at T22
                                  rw [hv22.out]
                                  obtain ⟨K9, B9⟩ := T22.out.box8 (.string ⟨#[]⟩) (.int .i64 0) (.int .i64 0) (.string ⟨#[]⟩) (.string ⟨#[]⟩) (.int .i64 0) (.int .i64 0) (.int .i64 0)
                                  obtain ⟨w9, hw9⟩ := name_it (((((((((v22.setCell ⟨w.heap.size, 0, none⟩ (.string ⟨#[]⟩)).setCell ⟨w.heap.size, 1, none⟩ (.int .i64 0)).setCell ⟨w.heap.size, 2, none⟩ (.int .i64 0)).setCell ⟨w.heap.size, 3, none⟩ (.string ⟨#[]⟩)).setCell ⟨w.heap.size, 4, none⟩ (.string ⟨#[]⟩)).setCell ⟨w.heap.size, 5, none⟩ (.int .i64 0)).setCell ⟨w.heap.size, 6, none⟩ (.int .i64 0)).setCell ⟨w.heap.size, 7, none⟩ (.int .i64 0)))
                                  rw [hw9.out] at K9 B9
                                  rw [hw9.out]
                                  clear z0 y0 z1 y1 z2 y2 z3 y3 z4 y4 z5 y5 z6 y6 z7 y7
                                  have f0 : w9.cell? ⟨w.heap.size, 0, none⟩ = some (.string ⟨#[]⟩) := K9.cell 0
                                  have f1 : w9.cell? ⟨w.heap.size, 1, none⟩ = some (.int .i64 0) := K9.cell 1
                                  have f2 : w9.cell? ⟨w.heap.size, 2, none⟩ = some (.int .i64 0) := K9.cell 2
                                  have f3 : w9.cell? ⟨w.heap.size, 3, none⟩ = some (.string ⟨#[]⟩) := K9.cell 3
                                  have f4 : w9.cell? ⟨w.heap.size, 4, none⟩ = some (.string ⟨#[]⟩) := K9.cell 4
                                  have f5 : w9.cell? ⟨w.heap.size, 5, none⟩ = some (.int .i64 0) := K9.cell 5
                                  have f6 : w9.cell? ⟨w.heap.size, 6, none⟩ = some (.int .i64 0) := K9.cell 6
                                  have f7 : w9.cell? ⟨w.heap.size, 7, none⟩ = some (.int .i64 0) := K9.cell 7
                                  refine bodyPost_ret (v := .tuple #[noS, .int .i64 (nO : Nat), .int .i64 280]) (by simp [results, Tryz.results16, go_sem, noS, f0, f1, f2, f3, f4, f5, f6, f7]) rfl ?_
                                  rw [HV.out]
                                  exact ⟨rfl, B9⟩
                                ·
                                  rw [decide_eq_true h1] at CO
                                  replace CO := Lib.hid CO
                                  have hO : Hid (pO (L s) = (vO, (nO, false))) := by unfold pO Hid; rw [hN.out]; exact h2
                                  have hO2 : Hid ((pO (L s)).2 = (nO, false)) := by unfold Hid; rw [hO.out]
                                  have lO := hle
                                  clear h1 h2 hle
                                  refine (CO.out _).mono ?_
                                  rintro e w23 ⟨rfl, b23⟩
                                  have R23 := Lib.hid (R21.out.on b23)
                                  clear b23 R21 CO
                                  by_cases hltO : nO < s.size
                                  ·
                                    have HV : Hid (VR = .tuple #[noS, .int .i64 (nO : Nat), .int .i64 280]) := by
                                      rw [← hVR.out]; unfold parV parsesB Hid
                                      rw [show parseEnd (L s) = (nO, false) from hO2.out]
                                      rw [show (!(nO, false).2 && decide ((nO, false).1 = (L s).length)) = false by rw [L_length]; show (true && decide (nO = s.size)) = false; rw [decide_eq_false (by omega)]; rfl]
                                      rfl
                                    have d1 : decide ((nO : Int) < (s.size : Int)) = true := decide_eq_true (by omega)
                                    have d1n : decide (nO < s.size) = true := decide_eq_true hltO
                                    have c : w23.cell? ⟨w.heap.size + 1, 6, none⟩ = some (.int .i64 0) := R23.out.ent.cell 6
                                    have fz := R23.out.ent.frozen 6
                                    have T23 : Hid (RS w (w23.setCell ⟨w.heap.size + 1, 6, none⟩ (.int .i64 vO)) ⟨((L s).take nA), (((L s).drop nH).take (nI - nH)), tg, vC, vE, vG, x, vO⟩) := R23.out.store 6 (.int .i64 vO) _ (rfl)
                                    obtain ⟨v23, hv23⟩ : ∃ v, Hid (w23.setCell ⟨w.heap.size + 1, 6, none⟩ (.int .i64 vO) = v) := ⟨_, rfl⟩
                                    have z0 : (w23.setCell ⟨w.heap.size + 1, 6, none⟩ (.int .i64 vO)).cell? ⟨w.heap.size, 0, none⟩ = some (.string ⟨#[]⟩) := T23.out.box.cell 0
                                    have y0 : (w23.setCell ⟨w.heap.size + 1, 6, none⟩ (.int .i64 vO)).frozen? ⟨w.heap.size, 0, none⟩ = false := T23.out.box.frozen 0
                                    have z1 : (w23.setCell ⟨w.heap.size + 1, 6, none⟩ (.int .i64 vO)).cell? ⟨w.heap.size, 1, none⟩ = some (.int .i64 0) := T23.out.box.cell 1
                                    have y1 : (w23.setCell ⟨w.heap.size + 1, 6, none⟩ (.int .i64 vO)).frozen? ⟨w.heap.size, 1, none⟩ = false := T23.out.box.frozen 1
                                    have z2 : (w23.setCell ⟨w.heap.size + 1, 6, none⟩ (.int .i64 vO)).cell? ⟨w.heap.size, 2, none⟩ = some (.int .i64 0) := T23.out.box.cell 2
                                    have y2 : (w23.setCell ⟨w.heap.size + 1, 6, none⟩ (.int .i64 vO)).frozen? ⟨w.heap.size, 2, none⟩ = false := T23.out.box.frozen 2
                                    have z3 : (w23.setCell ⟨w.heap.size + 1, 6, none⟩ (.int .i64 vO)).cell? ⟨w.heap.size, 3, none⟩ = some (.string ⟨#[]⟩) := T23.out.box.cell 3
                                    have y3 : (w23.setCell ⟨w.heap.size + 1, 6, none⟩ (.int .i64 vO)).frozen? ⟨w.heap.size, 3, none⟩ = false := T23.out.box.frozen 3
                                    have z4 : (w23.setCell ⟨w.heap.size + 1, 6, none⟩ (.int .i64 vO)).cell? ⟨w.heap.size, 4, none⟩ = some (.string ⟨#[]⟩) := T23.out.box.cell 4
                                    have y4 : (w23.setCell ⟨w.heap.size + 1, 6, none⟩ (.int .i64 vO)).frozen? ⟨w.heap.size, 4, none⟩ = false := T23.out.box.frozen 4
                                    have z5 : (w23.setCell ⟨w.heap.size + 1, 6, none⟩ (.int .i64 vO)).cell? ⟨w.heap.size, 5, none⟩ = some (.int .i64 0) := T23.out.box.cell 5
                                    have y5 : (w23.setCell ⟨w.heap.size + 1, 6, none⟩ (.int .i64 vO)).frozen? ⟨w.heap.size, 5, none⟩ = false := T23.out.box.frozen 5
                                    have z6 : (w23.setCell ⟨w.heap.size + 1, 6, none⟩ (.int .i64 vO)).cell? ⟨w.heap.size, 6, none⟩ = some (.int .i64 0) := T23.out.box.cell 6
                                    have y6 : (w23.setCell ⟨w.heap.size + 1, 6, none⟩ (.int .i64 vO)).frozen? ⟨w.heap.size, 6, none⟩ = false := T23.out.box.frozen 6
                                    have z7 : (w23.setCell ⟨w.heap.size + 1, 6, none⟩ (.int .i64 vO)).cell? ⟨w.heap.size, 7, none⟩ = some (.int .i64 0) := T23.out.box.cell 7
                                    have y7 : (w23.setCell ⟨w.heap.size + 1, 6, none⟩ (.int .i64 vO)).frozen? ⟨w.heap.size, 7, none⟩ = false := T23.out.box.frozen 7
                                    go_wp2_with fail
                                    all_goals (try (exfalso; omega))
                                    rw [hv23.out] at T23
                                    rw [hv23.out]
                                    obtain ⟨K9, B9⟩ := T23.out.box8 (.string ⟨#[]⟩) (.int .i64 0) (.int .i64 0) (.string ⟨#[]⟩) (.string ⟨#[]⟩) (.int .i64 0) (.int .i64 0) (.int .i64 0)
                                    obtain ⟨w9, hw9⟩ := name_it (((((((((v23.setCell ⟨w.heap.size, 0, none⟩ (.string ⟨#[]⟩)).setCell ⟨w.heap.size, 1, none⟩ (.int .i64 0)).setCell ⟨w.heap.size, 2, none⟩ (.int .i64 0)).setCell ⟨w.heap.size, 3, none⟩ (.string ⟨#[]⟩)).setCell ⟨w.heap.size, 4, none⟩ (.string ⟨#[]⟩)).setCell ⟨w.heap.size, 5, none⟩ (.int .i64 0)).setCell ⟨w.heap.size, 6, none⟩ (.int .i64 0)).setCell ⟨w.heap.size, 7, none⟩ (.int .i64 0)))
                                    rw [hw9.out] at K9 B9
                                    rw [hw9.out]
                                    clear z0 y0 z1 y1 z2 y2 z3 y3 z4 y4 z5 y5 z6 y6 z7 y7
                                    have f0 : w9.cell? ⟨w.heap.size, 0, none⟩ = some (.string ⟨#[]⟩) := K9.cell 0
                                    have f1 : w9.cell? ⟨w.heap.size, 1, none⟩ = some (.int .i64 0) := K9.cell 1
                                    have f2 : w9.cell? ⟨w.heap.size, 2, none⟩ = some (.int .i64 0) := K9.cell 2
                                    have f3 : w9.cell? ⟨w.heap.size, 3, none⟩ = some (.string ⟨#[]⟩) := K9.cell 3
                                    have f4 : w9.cell? ⟨w.heap.size, 4, none⟩ = some (.string ⟨#[]⟩) := K9.cell 4
                                    have f5 : w9.cell? ⟨w.heap.size, 5, none⟩ = some (.int .i64 0) := K9.cell 5
                                    have f6 : w9.cell? ⟨w.heap.size, 6, none⟩ = some (.int .i64 0) := K9.cell 6
                                    have f7 : w9.cell? ⟨w.heap.size, 7, none⟩ = some (.int .i64 0) := K9.cell 7
                                    refine bodyPost_ret (v := .tuple #[noS, .int .i64 (nO : Nat), .int .i64 280]) (by simp [results, Tryz.results16, go_sem, noS, f0, f1, f2, f3, f4, f5, f6, f7]) rfl ?_
                                    rw [HV.out]
                                    exact ⟨rfl, B9⟩
                                  ·
                                    have hOS : nO = s.size := by omega
                                    have HV : Hid (VR = .tuple #[encE ⟨((L s).take nA), (((L s).drop nH).take (nI - nH)), tg, vC, vE, vG, x, vO⟩, .int .i64 0, .int .i64 0]) := by
                                      rw [← hVR.out]; unfold parV parsesB Hid
                                      rw [show parseEnd (L s) = (nO, false) from hO2.out]
                                      rw [show (!(nO, false).2 && decide ((nO, false).1 = (L s).length)) = true by rw [L_length]; show (true && decide (nO = s.size)) = true; rw [decide_eq_true hOS]; rfl]
                                      rw [if_pos rfl]
                                      unfold parsedE
                                      rw [hA.out, hH.out, hI.out, hK.out, hC.out, hE.out, hG.out, hM.out, hO.out]
                                    have d1 : decide ((nO : Int) < (s.size : Int)) = false := decide_eq_false (by omega)
                                    have d1n : decide (nO < s.size) = false := decide_eq_false hltO
                                    clear hOS
                                    have c : w23.cell? ⟨w.heap.size + 1, 6, none⟩ = some (.int .i64 0) := R23.out.ent.cell 6
                                    have fz := R23.out.ent.frozen 6
                                    have T23 : Hid (RS w (w23.setCell ⟨w.heap.size + 1, 6, none⟩ (.int .i64 vO)) ⟨((L s).take nA), (((L s).drop nH).take (nI - nH)), tg, vC, vE, vG, x, vO⟩) := R23.out.store 6 (.int .i64 vO) _ (rfl)
                                    obtain ⟨v23, hv23⟩ : ∃ v, Hid (w23.setCell ⟨w.heap.size + 1, 6, none⟩ (.int .i64 vO) = v) := ⟨_, rfl⟩
                                    have z0 : (w23.setCell ⟨w.heap.size + 1, 6, none⟩ (.int .i64 vO)).cell? ⟨w.heap.size, 0, none⟩ = some (.string ⟨#[]⟩) := T23.out.box.cell 0
                                    have y0 : (w23.setCell ⟨w.heap.size + 1, 6, none⟩ (.int .i64 vO)).frozen? ⟨w.heap.size, 0, none⟩ = false := T23.out.box.frozen 0
                                    have z1 : (w23.setCell ⟨w.heap.size + 1, 6, none⟩ (.int .i64 vO)).cell? ⟨w.heap.size, 1, none⟩ = some (.int .i64 0) := T23.out.box.cell 1
                                    have y1 : (w23.setCell ⟨w.heap.size + 1, 6, none⟩ (.int .i64 vO)).frozen? ⟨w.heap.size, 1, none⟩ = false := T23.out.box.frozen 1
                                    have z2 : (w23.setCell ⟨w.heap.size + 1, 6, none⟩ (.int .i64 vO)).cell? ⟨w.heap.size, 2, none⟩ = some (.int .i64 0) := T23.out.box.cell 2
                                    have y2 : (w23.setCell ⟨w.heap.size + 1, 6, none⟩ (.int .i64 vO)).frozen? ⟨w.heap.size, 2, none⟩ = false := T23.out.box.frozen 2
                                    have z3 : (w23.setCell ⟨w.heap.size + 1, 6, none⟩ (.int .i64 vO)).cell? ⟨w.heap.size, 3, none⟩ = some (.string ⟨#[]⟩) := T23.out.box.cell 3
                                    have y3 : (w23.setCell ⟨w.heap.size + 1, 6, none⟩ (.int .i64 vO)).frozen? ⟨w.heap.size, 3, none⟩ = false := T23.out.box.frozen 3
                                    have z4 : (w23.setCell ⟨w.heap.size + 1, 6, none⟩ (.int .i64 vO)).cell? ⟨w.heap.size, 4, none⟩ = some (.string ⟨#[]⟩) := T23.out.box.cell 4
                                    have y4 : (w23.setCell ⟨w.heap.size + 1, 6, none⟩ (.int .i64 vO)).frozen? ⟨w.heap.size, 4, none⟩ = false := T23.out.box.frozen 4
                                    have z5 : (w23.setCell ⟨w.heap.size + 1, 6, none⟩ (.int .i64 vO)).cell? ⟨w.heap.size, 5, none⟩ = some (.int .i64 0) := T23.out.box.cell 5
                                    have y5 : (w23.setCell ⟨w.heap.size + 1, 6, none⟩ (.int .i64 vO)).frozen? ⟨w.heap.size, 5, none⟩ = false := T23.out.box.frozen 5
                                    have z6 : (w23.setCell ⟨w.heap.size + 1, 6, none⟩ (.int .i64 vO)).cell? ⟨w.heap.size, 6, none⟩ = some (.int .i64 0) := T23.out.box.cell 6
                                    have y6 : (w23.setCell ⟨w.heap.size + 1, 6, none⟩ (.int .i64 vO)).frozen? ⟨w.heap.size, 6, none⟩ = false := T23.out.box.frozen 6
                                    have z7 : (w23.setCell ⟨w.heap.size + 1, 6, none⟩ (.int .i64 vO)).cell? ⟨w.heap.size, 7, none⟩ = some (.int .i64 0) := T23.out.box.cell 7
                                    have y7 : (w23.setCell ⟨w.heap.size + 1, 6, none⟩ (.int .i64 vO)).frozen? ⟨w.heap.size, 7, none⟩ = false := T23.out.box.frozen 7
                                    have e0 : (w23.setCell ⟨w.heap.size + 1, 6, none⟩ (.int .i64 vO)).cell? ⟨w.heap.size + 1, 0, none⟩ = some (.string (bs ((L s).take nA))) := T23.out.ent.cell 0
                                    have e1 : (w23.setCell ⟨w.heap.size + 1, 6, none⟩ (.int .i64 vO)).cell? ⟨w.heap.size + 1, 1, none⟩ = some (.int .i64 vC) := T23.out.ent.cell 1
                                    have e2 : (w23.setCell ⟨w.heap.size + 1, 6, none⟩ (.int .i64 vO)).cell? ⟨w.heap.size + 1, 2, none⟩ = some (.int .i64 vE) := T23.out.ent.cell 2
                                    have e3 : (w23.setCell ⟨w.heap.size + 1, 6, none⟩ (.int .i64 vO)).cell? ⟨w.heap.size + 1, 3, none⟩ = some (.string (bs (((L s).drop nH).take (nI - nH)))) := T23.out.ent.cell 3
                                    have e4 : (w23.setCell ⟨w.heap.size + 1, 6, none⟩ (.int .i64 vO)).cell? ⟨w.heap.size + 1, 4, none⟩ = some (.string (bs tg)) := T23.out.ent.cell 4
                                    have e5 : (w23.setCell ⟨w.heap.size + 1, 6, none⟩ (.int .i64 vO)).cell? ⟨w.heap.size + 1, 5, none⟩ = some (.int .i64 x) := T23.out.ent.cell 5
                                    have e6 : (w23.setCell ⟨w.heap.size + 1, 6, none⟩ (.int .i64 vO)).cell? ⟨w.heap.size + 1, 6, none⟩ = some (.int .i64 vO) := T23.out.ent.cell 6
                                    have e7 : (w23.setCell ⟨w.heap.size + 1, 6, none⟩ (.int .i64 vO)).cell? ⟨w.heap.size + 1, 7, none⟩ = some (.int .i64 vG) := T23.out.ent.cell 7
                                    go_wp2_with fail
                                    all_goals (try (exfalso; omega))
                                    rw [hv23.out] at T23
                                    rw [hv23.out]
                                    obtain ⟨K9, B9⟩ := T23.out.box8 (.string (bs ((L s).take nA))) (.int .i64 vC) (.int .i64 vE) (.string (bs (((L s).drop nH).take (nI - nH)))) (.string (bs tg)) (.int .i64 x) (.int .i64 vO) (.int .i64 vG)
                                    obtain ⟨w9, hw9⟩ := name_it (((((((((v23.setCell ⟨w.heap.size, 0, none⟩ (.string (bs ((L s).take nA)))).setCell ⟨w.heap.size, 1, none⟩ (.int .i64 vC)).setCell ⟨w.heap.size, 2, none⟩ (.int .i64 vE)).setCell ⟨w.heap.size, 3, none⟩ (.string (bs (((L s).drop nH).take (nI - nH))))).setCell ⟨w.heap.size, 4, none⟩ (.string (bs tg))).setCell ⟨w.heap.size, 5, none⟩ (.int .i64 x)).setCell ⟨w.heap.size, 6, none⟩ (.int .i64 vO)).setCell ⟨w.heap.size, 7, none⟩ (.int .i64 vG)))
                                    rw [hw9.out] at K9 B9
                                    rw [hw9.out]
                                    clear z0 y0 z1 y1 z2 y2 z3 y3 z4 y4 z5 y5 z6 y6 z7 y7
                                    have f0 : w9.cell? ⟨w.heap.size, 0, none⟩ = some (.string (bs ((L s).take nA))) := K9.cell 0
                                    have f1 : w9.cell? ⟨w.heap.size, 1, none⟩ = some (.int .i64 vC) := K9.cell 1
                                    have f2 : w9.cell? ⟨w.heap.size, 2, none⟩ = some (.int .i64 vE) := K9.cell 2
                                    have f3 : w9.cell? ⟨w.heap.size, 3, none⟩ = some (.string (bs (((L s).drop nH).take (nI - nH)))) := K9.cell 3
                                    have f4 : w9.cell? ⟨w.heap.size, 4, none⟩ = some (.string (bs tg)) := K9.cell 4
                                    have f5 : w9.cell? ⟨w.heap.size, 5, none⟩ = some (.int .i64 x) := K9.cell 5
                                    have f6 : w9.cell? ⟨w.heap.size, 6, none⟩ = some (.int .i64 vO) := K9.cell 6
                                    have f7 : w9.cell? ⟨w.heap.size, 7, none⟩ = some (.int .i64 vG) := K9.cell 7
                                    refine bodyPost_ret (v := .tuple #[encE ⟨((L s).take nA), (((L s).drop nH).take (nI - nH)), tg, vC, vE, vG, x, vO⟩, .int .i64 0, .int .i64 0]) (by simp [results, Tryz.results16, go_sem, encE, f0, f1, f2, f3, f4, f5, f6, f7]) rfl ?_
                                    rw [HV.out]
                                    exact ⟨rfl, B9⟩
                                ·
                                  rw [decide_eq_true h1] at CO
                                  replace CO := Lib.hid CO
                                  have he : Hid ((pO (L s)).2 = (nO, true)) := by unfold pO Hid; rw [hN.out]; exact h2
                                  have HV : Hid (VR = .tuple #[noS, .int .i64 (nO : Nat), .int .i64 280]) := by rw [← hVR.out]; exact parV_bad (he.out)
                                  have hltO : nO < s.size := by have := (List.getElem?_eq_some_iff.1 h3).1; rw [L_length] at this; exact this
                                  clear h3 h4
                                  clear h1 h2
                                  refine (CO.out _).mono ?_
                                  rintro e w24 ⟨rfl, b24⟩
                                  have R24 := Lib.hid (R21.out.on b24)
                                  clear b24 R21 CO he
                                  have d1 : decide ((nO : Int) < (s.size : Int)) = true := decide_eq_true (by omega)
                                  have d1n : decide (nO < s.size) = true := decide_eq_true hltO
                                  have c : w24.cell? ⟨w.heap.size + 1, 6, none⟩ = some (.int .i64 0) := R24.out.ent.cell 6
                                  have fz := R24.out.ent.frozen 6
                                  have T24 : Hid (RS w (w24.setCell ⟨w.heap.size + 1, 6, none⟩ (.int .i64 vO)) ⟨((L s).take nA), (((L s).drop nH).take (nI - nH)), tg, vC, vE, vG, x, vO⟩) := R24.out.store 6 (.int .i64 vO) _ (rfl)
                                  obtain ⟨v24, hv24⟩ : ∃ v, Hid (w24.setCell ⟨w.heap.size + 1, 6, none⟩ (.int .i64 vO) = v) := ⟨_, rfl⟩
                                  have z0 : (w24.setCell ⟨w.heap.size + 1, 6, none⟩ (.int .i64 vO)).cell? ⟨w.heap.size, 0, none⟩ = some (.string ⟨#[]⟩) := T24.out.box.cell 0
                                  have y0 : (w24.setCell ⟨w.heap.size + 1, 6, none⟩ (.int .i64 vO)).frozen? ⟨w.heap.size, 0, none⟩ = false := T24.out.box.frozen 0
                                  have z1 : (w24.setCell ⟨w.heap.size + 1, 6, none⟩ (.int .i64 vO)).cell? ⟨w.heap.size, 1, none⟩ = some (.int .i64 0) := T24.out.box.cell 1
                                  have y1 : (w24.setCell ⟨w.heap.size + 1, 6, none⟩ (.int .i64 vO)).frozen? ⟨w.heap.size, 1, none⟩ = false := T24.out.box.frozen 1
                                  have z2 : (w24.setCell ⟨w.heap.size + 1, 6, none⟩ (.int .i64 vO)).cell? ⟨w.heap.size, 2, none⟩ = some (.int .i64 0) := T24.out.box.cell 2
                                  have y2 : (w24.setCell ⟨w.heap.size + 1, 6, none⟩ (.int .i64 vO)).frozen? ⟨w.heap.size, 2, none⟩ = false := T24.out.box.frozen 2
                                  have z3 : (w24.setCell ⟨w.heap.size + 1, 6, none⟩ (.int .i64 vO)).cell? ⟨w.heap.size, 3, none⟩ = some (.string ⟨#[]⟩) := T24.out.box.cell 3
                                  have y3 : (w24.setCell ⟨w.heap.size + 1, 6, none⟩ (.int .i64 vO)).frozen? ⟨w.heap.size, 3, none⟩ = false := T24.out.box.frozen 3
                                  have z4 : (w24.setCell ⟨w.heap.size + 1, 6, none⟩ (.int .i64 vO)).cell? ⟨w.heap.size, 4, none⟩ = some (.string ⟨#[]⟩) := T24.out.box.cell 4
                                  have y4 : (w24.setCell ⟨w.heap.size + 1, 6, none⟩ (.int .i64 vO)).frozen? ⟨w.heap.size, 4, none⟩ = false := T24.out.box.frozen 4
                                  have z5 : (w24.setCell ⟨w.heap.size + 1, 6, none⟩ (.int .i64 vO)).cell? ⟨w.heap.size, 5, none⟩ = some (.int .i64 0) := T24.out.box.cell 5
                                  have y5 : (w24.setCell ⟨w.heap.size + 1, 6, none⟩ (.int .i64 vO)).frozen? ⟨w.heap.size, 5, none⟩ = false := T24.out.box.frozen 5
                                  have z6 : (w24.setCell ⟨w.heap.size + 1, 6, none⟩ (.int .i64 vO)).cell? ⟨w.heap.size, 6, none⟩ = some (.int .i64 0) := T24.out.box.cell 6
                                  have y6 : (w24.setCell ⟨w.heap.size + 1, 6, none⟩ (.int .i64 vO)).frozen? ⟨w.heap.size, 6, none⟩ = false := T24.out.box.frozen 6
                                  have z7 : (w24.setCell ⟨w.heap.size + 1, 6, none⟩ (.int .i64 vO)).cell? ⟨w.heap.size, 7, none⟩ = some (.int .i64 0) := T24.out.box.cell 7
                                  have y7 : (w24.setCell ⟨w.heap.size + 1, 6, none⟩ (.int .i64 vO)).frozen? ⟨w.heap.size, 7, none⟩ = false := T24.out.box.frozen 7
                                  go_wp2_with fail
                                  all_goals (try (exfalso; omega))
                                  rw [hv24.out] at T24
                                  rw [hv24.out]
                                  obtain ⟨K9, B9⟩ := T24.out.box8 (.string ⟨#[]⟩) (.int .i64 0) (.int .i64 0) (.string ⟨#[]⟩) (.string ⟨#[]⟩) (.int .i64 0) (.int .i64 0) (.int .i64 0)
                                  obtain ⟨w9, hw9⟩ := name_it (((((((((v24.setCell ⟨w.heap.size, 0, none⟩ (.string ⟨#[]⟩)).setCell ⟨w.heap.size, 1, none⟩ (.int .i64 0)).setCell ⟨w.heap.size, 2, none⟩ (.int .i64 0)).setCell ⟨w.heap.size, 3, none⟩ (.string ⟨#[]⟩)).setCell ⟨w.heap.size, 4, none⟩ (.string ⟨#[]⟩)).setCell ⟨w.heap.size, 5, none⟩ (.int .i64 0)).setCell ⟨w.heap.size, 6, none⟩ (.int .i64 0)).setCell ⟨w.heap.size, 7, none⟩ (.int .i64 0)))
                                  rw [hw9.out] at K9 B9
                                  rw [hw9.out]
                                  clear z0 y0 z1 y1 z2 y2 z3 y3 z4 y4 z5 y5 z6 y6 z7 y7
                                  have f0 : w9.cell? ⟨w.heap.size, 0, none⟩ = some (.string ⟨#[]⟩) := K9.cell 0
                                  have f1 : w9.cell? ⟨w.heap.size, 1, none⟩ = some (.int .i64 0) := K9.cell 1
                                  have f2 : w9.cell? ⟨w.heap.size, 2, none⟩ = some (.int .i64 0) := K9.cell 2
                                  have f3 : w9.cell? ⟨w.heap.size, 3, none⟩ = some (.string ⟨#[]⟩) := K9.cell 3
                                  have f4 : w9.cell? ⟨w.heap.size, 4, none⟩ = some (.string ⟨#[]⟩) := K9.cell 4
                                  have f5 : w9.cell? ⟨w.heap.size, 5, none⟩ = some (.int .i64 0) := K9.cell 5
                                  have f6 : w9.cell? ⟨w.heap.size, 6, none⟩ = some (.int .i64 0) := K9.cell 6
                                  have f7 : w9.cell? ⟨w.heap.size, 7, none⟩ = some (.int .i64 0) := K9.cell 7
                                  refine bodyPost_ret (v := .tuple #[noS, .int .i64 (nO : Nat), .int .i64 280]) (by simp [results, Tryz.results16, go_sem, noS, f0, f1, f2, f3, f4, f5, f6, f7]) rfl ?_
                                  rw [HV.out]
                                  exact ⟨rfl, B9⟩
              ·
                rw [decide_eq_true h1] at CG
                replace CG := Lib.hid CG
                have he : Hid ((pG (L s)).2 = (nG, true)) := by unfold pG Hid; rw [hF.out]; exact h2
                have HV : Hid (VR = .tuple #[noS, .int .i64 (nG : Nat), .int .i64 280]) := by rw [← hVR.out]; exact parV_bad ((end_G (by rw [he.out])).trans he.out)
                clear h1 h2
                refine (CG.out _).mono ?_
                rintro e w25 ⟨rfl, b25⟩
                have R25 := Lib.hid (R8.out.on b25)
                have H25 := Lib.hid (H8.out.below b25 H8.out.lt)
                clear b25 R8 CG he
                have c : w25.cell? ⟨w.heap.size + 1, 7, none⟩ = some (.int .i64 0) := R25.out.ent.cell 7
                have fz := R25.out.ent.frozen 7
                have T25 : Hid (RS w (w25.setCell ⟨w.heap.size + 1, 7, none⟩ (.int .i64 vG)) ⟨((L s).take nA), [], [], vC, vE, vG, 0, 0⟩) := R25.out.store 7 (.int .i64 vG) _ (rfl)
                have G25 : Hid (Blk (w25.setCell ⟨w.heap.size + 1, 7, none⟩ (.int .i64 vG)) hb 9 #[.string ⟨#[32, 99, 111, 110, 110, 61]⟩, .string ⟨#[32, 110, 117, 109, 98, 101, 114, 61]⟩, .string ⟨#[32, 116, 105, 99, 107, 61]⟩]) := H25.out.just (Just.set (w.heap.size + 1) 7 w25 (.int .i64 vG)) hne
                go_wp2_with fail
                obtain ⟨v25, hv25⟩ := name_it (w25.setCell ⟨w.heap.size + 1, 7, none⟩ (.int .i64 vG))
                rw [hv25.out] at T25 G25
                rw [hv25.out]
                clear c fz R25 hv25 H25
                rw [rounds_succ]
                go_wp2_with fail
                have CX := Lib.hid (fun wx => rtextS s ⟨#[32]⟩ nG wx hle hs (by decide) nG true (lit_at_digit h3 h4))
                refine (CX.out _).mono ?_
                rintro e w26 ⟨rfl, b26⟩
                have R26 := Lib.hid (T25.out.on b26)
                clear b26 T25 CX
                have z0 : w26.cell? ⟨w.heap.size, 0, none⟩ = some (.string ⟨#[]⟩) := R26.out.box.cell 0
                have y0 : w26.frozen? ⟨w.heap.size, 0, none⟩ = false := R26.out.box.frozen 0
                have z1 : w26.cell? ⟨w.heap.size, 1, none⟩ = some (.int .i64 0) := R26.out.box.cell 1
                have y1 : w26.frozen? ⟨w.heap.size, 1, none⟩ = false := R26.out.box.frozen 1
                have z2 : w26.cell? ⟨w.heap.size, 2, none⟩ = some (.int .i64 0) := R26.out.box.cell 2
                have y2 : w26.frozen? ⟨w.heap.size, 2, none⟩ = false := R26.out.box.frozen 2
                have z3 : w26.cell? ⟨w.heap.size, 3, none⟩ = some (.string ⟨#[]⟩) := R26.out.box.cell 3
                have y3 : w26.frozen? ⟨w.heap.size, 3, none⟩ = false := R26.out.box.frozen 3
                have z4 : w26.cell? ⟨w.heap.size, 4, none⟩ = some (.string ⟨#[]⟩) := R26.out.box.cell 4
                have y4 : w26.frozen? ⟨w.heap.size, 4, none⟩ = false := R26.out.box.frozen 4
                have z5 : w26.cell? ⟨w.heap.size, 5, none⟩ = some (.int .i64 0) := R26.out.box.cell 5
                have y5 : w26.frozen? ⟨w.heap.size, 5, none⟩ = false := R26.out.box.frozen 5
                have z6 : w26.cell? ⟨w.heap.size, 6, none⟩ = some (.int .i64 0) := R26.out.box.cell 6
                have y6 : w26.frozen? ⟨w.heap.size, 6, none⟩ = false := R26.out.box.frozen 6
                have z7 : w26.cell? ⟨w.heap.size, 7, none⟩ = some (.int .i64 0) := R26.out.box.cell 7
                have y7 : w26.frozen? ⟨w.heap.size, 7, none⟩ = false := R26.out.box.frozen 7
                go_wp2_with fail
                all_goals (try (exfalso; omega))
                obtain ⟨K9, B9⟩ := R26.out.box8 (.string ⟨#[]⟩) (.int .i64 0) (.int .i64 0) (.string ⟨#[]⟩) (.string ⟨#[]⟩) (.int .i64 0) (.int .i64 0) (.int .i64 0)
                obtain ⟨w9, hw9⟩ := name_it (((((((((w26.setCell ⟨w.heap.size, 0, none⟩ (.string ⟨#[]⟩)).setCell ⟨w.heap.size, 1, none⟩ (.int .i64 0)).setCell ⟨w.heap.size, 2, none⟩ (.int .i64 0)).setCell ⟨w.heap.size, 3, none⟩ (.string ⟨#[]⟩)).setCell ⟨w.heap.size, 4, none⟩ (.string ⟨#[]⟩)).setCell ⟨w.heap.size, 5, none⟩ (.int .i64 0)).setCell ⟨w.heap.size, 6, none⟩ (.int .i64 0)).setCell ⟨w.heap.size, 7, none⟩ (.int .i64 0)))
                rw [hw9.out] at K9 B9
                rw [hw9.out]
                clear z0 y0 z1 y1 z2 y2 z3 y3 z4 y4 z5 y5 z6 y6 z7 y7
                have f0 : w9.cell? ⟨w.heap.size, 0, none⟩ = some (.string ⟨#[]⟩) := K9.cell 0
                have f1 : w9.cell? ⟨w.heap.size, 1, none⟩ = some (.int .i64 0) := K9.cell 1
                have f2 : w9.cell? ⟨w.heap.size, 2, none⟩ = some (.int .i64 0) := K9.cell 2
                have f3 : w9.cell? ⟨w.heap.size, 3, none⟩ = some (.string ⟨#[]⟩) := K9.cell 3
                have f4 : w9.cell? ⟨w.heap.size, 4, none⟩ = some (.string ⟨#[]⟩) := K9.cell 4
                have f5 : w9.cell? ⟨w.heap.size, 5, none⟩ = some (.int .i64 0) := K9.cell 5
                have f6 : w9.cell? ⟨w.heap.size, 6, none⟩ = some (.int .i64 0) := K9.cell 6
                have f7 : w9.cell? ⟨w.heap.size, 7, none⟩ = some (.int .i64 0) := K9.cell 7
                refine bodyPost_ret (v := .tuple #[noS, .int .i64 (nG : Nat), .int .i64 280]) (by simp [results, Tryz.results16, go_sem, noS, f0, f1, f2, f3, f4, f5, f6, f7]) rfl ?_
                rw [HV.out]
                exact ⟨rfl, B9⟩
          ·
            rw [decide_eq_true h1] at CE
            replace CE := Lib.hid CE
            have he : Hid ((pE (L s)).2 = (nE, true)) := by unfold pE Hid; rw [hD.out]; exact h2
            have HV : Hid (VR = .tuple #[noS, .int .i64 (nE : Nat), .int .i64 280]) := by rw [← hVR.out]; exact parV_bad ((end_E (by rw [he.out])).trans he.out)
            clear h1 h2
            refine (CE.out _).mono ?_
            rintro e w27 ⟨rfl, b27⟩
            have R27 := Lib.hid (R5.out.on b27)
            have H27 := Lib.hid (H5.out.below b27 H5.out.lt)
            clear b27 R5 CE he
            have c : w27.cell? ⟨w.heap.size + 1, 2, none⟩ = some (.int .i64 0) := R27.out.ent.cell 2
            have fz := R27.out.ent.frozen 2
            have T27 : Hid (RS w (w27.setCell ⟨w.heap.size + 1, 2, none⟩ (.int .i64 vE)) ⟨((L s).take nA), [], [], vC, vE, 0, 0, 0⟩) := R27.out.store 2 (.int .i64 vE) _ (rfl)
            have G27 : Hid (Blk (w27.setCell ⟨w.heap.size + 1, 2, none⟩ (.int .i64 vE)) hb 9 #[.string ⟨#[32, 99, 111, 110, 110, 61]⟩, .string ⟨#[32, 110, 117, 109, 98, 101, 114, 61]⟩, .string ⟨#[32, 116, 105, 99, 107, 61]⟩]) := H27.out.just (Just.set (w.heap.size + 1) 2 w27 (.int .i64 vE)) hne
            go_wp2_with fail
            obtain ⟨v27, hv27⟩ := name_it (w27.setCell ⟨w.heap.size + 1, 2, none⟩ (.int .i64 vE))
            rw [hv27.out] at T27 G27
            rw [hv27.out]
            clear c fz R27 hv27 H27
            rw [rounds_succ]
            have hc : v27.cell? ⟨hb, 2, none⟩ = some (.string ⟨#[32, 116, 105, 99, 107, 61]⟩) := G27.out.cell 2
            go_wp2_with fail
            have CX := Lib.hid (fun wx => rtextS s ⟨#[32, 116, 105, 99, 107, 61]⟩ nE wx hle hs (by decide) nE true (lit_at_digit h3 h4))
            refine (CX.out _).mono ?_
            rintro e w28 ⟨rfl, b28⟩
            have R28 := Lib.hid (T27.out.on b28)
            clear b28 T27 CX
            have z0 : w28.cell? ⟨w.heap.size, 0, none⟩ = some (.string ⟨#[]⟩) := R28.out.box.cell 0
            have y0 : w28.frozen? ⟨w.heap.size, 0, none⟩ = false := R28.out.box.frozen 0
            have z1 : w28.cell? ⟨w.heap.size, 1, none⟩ = some (.int .i64 0) := R28.out.box.cell 1
            have y1 : w28.frozen? ⟨w.heap.size, 1, none⟩ = false := R28.out.box.frozen 1
            have z2 : w28.cell? ⟨w.heap.size, 2, none⟩ = some (.int .i64 0) := R28.out.box.cell 2
            have y2 : w28.frozen? ⟨w.heap.size, 2, none⟩ = false := R28.out.box.frozen 2
            have z3 : w28.cell? ⟨w.heap.size, 3, none⟩ = some (.string ⟨#[]⟩) := R28.out.box.cell 3
            have y3 : w28.frozen? ⟨w.heap.size, 3, none⟩ = false := R28.out.box.frozen 3
            have z4 : w28.cell? ⟨w.heap.size, 4, none⟩ = some (.string ⟨#[]⟩) := R28.out.box.cell 4
            have y4 : w28.frozen? ⟨w.heap.size, 4, none⟩ = false := R28.out.box.frozen 4
            have z5 : w28.cell? ⟨w.heap.size, 5, none⟩ = some (.int .i64 0) := R28.out.box.cell 5
            have y5 : w28.frozen? ⟨w.heap.size, 5, none⟩ = false := R28.out.box.frozen 5
            have z6 : w28.cell? ⟨w.heap.size, 6, none⟩ = some (.int .i64 0) := R28.out.box.cell 6
            have y6 : w28.frozen? ⟨w.heap.size, 6, none⟩ = false := R28.out.box.frozen 6
            have z7 : w28.cell? ⟨w.heap.size, 7, none⟩ = some (.int .i64 0) := R28.out.box.cell 7
            have y7 : w28.frozen? ⟨w.heap.size, 7, none⟩ = false := R28.out.box.frozen 7
            go_wp2_with fail
            all_goals (try (exfalso; omega))
            obtain ⟨K9, B9⟩ := R28.out.box8 (.string ⟨#[]⟩) (.int .i64 0) (.int .i64 0) (.string ⟨#[]⟩) (.string ⟨#[]⟩) (.int .i64 0) (.int .i64 0) (.int .i64 0)
            obtain ⟨w9, hw9⟩ := name_it (((((((((w28.setCell ⟨w.heap.size, 0, none⟩ (.string ⟨#[]⟩)).setCell ⟨w.heap.size, 1, none⟩ (.int .i64 0)).setCell ⟨w.heap.size, 2, none⟩ (.int .i64 0)).setCell ⟨w.heap.size, 3, none⟩ (.string ⟨#[]⟩)).setCell ⟨w.heap.size, 4, none⟩ (.string ⟨#[]⟩)).setCell ⟨w.heap.size, 5, none⟩ (.int .i64 0)).setCell ⟨w.heap.size, 6, none⟩ (.int .i64 0)).setCell ⟨w.heap.size, 7, none⟩ (.int .i64 0)))
            rw [hw9.out] at K9 B9
            rw [hw9.out]
            clear z0 y0 z1 y1 z2 y2 z3 y3 z4 y4 z5 y5 z6 y6 z7 y7
            have f0 : w9.cell? ⟨w.heap.size, 0, none⟩ = some (.string ⟨#[]⟩) := K9.cell 0
            have f1 : w9.cell? ⟨w.heap.size, 1, none⟩ = some (.int .i64 0) := K9.cell 1
            have f2 : w9.cell? ⟨w.heap.size, 2, none⟩ = some (.int .i64 0) := K9.cell 2
            have f3 : w9.cell? ⟨w.heap.size, 3, none⟩ = some (.string ⟨#[]⟩) := K9.cell 3
            have f4 : w9.cell? ⟨w.heap.size, 4, none⟩ = some (.string ⟨#[]⟩) := K9.cell 4
            have f5 : w9.cell? ⟨w.heap.size, 5, none⟩ = some (.int .i64 0) := K9.cell 5
            have f6 : w9.cell? ⟨w.heap.size, 6, none⟩ = some (.int .i64 0) := K9.cell 6
            have f7 : w9.cell? ⟨w.heap.size, 7, none⟩ = some (.int .i64 0) := K9.cell 7
            refine bodyPost_ret (v := .tuple #[noS, .int .i64 (nE : Nat), .int .i64 280]) (by simp [results, Tryz.results16, go_sem, noS, f0, f1, f2, f3, f4, f5, f6, f7]) rfl ?_
            rw [HV.out]
            exact ⟨rfl, B9⟩
      ·
        rw [decide_eq_true h1] at CC
        replace CC := Lib.hid CC
        have he : Hid ((pC (L s)).2 = (nC, true)) := by unfold pC Hid; rw [hB.out]; exact h2
        have HV : Hid (VR = .tuple #[noS, .int .i64 (nC : Nat), .int .i64 280]) := by rw [← hVR.out]; exact parV_bad ((end_C (by rw [he.out])).trans he.out)
        clear h1 h2
        refine (CC.out _).mono ?_
        rintro e w29 ⟨rfl, b29⟩
        have R29 := Lib.hid (R2.out.on b29)
        have H29 := Lib.hid (H2.out.below b29 H2.out.lt)
        clear b29 R2 CC he
        have c : w29.cell? ⟨w.heap.size + 1, 1, none⟩ = some (.int .i64 0) := R29.out.ent.cell 1
        have fz := R29.out.ent.frozen 1
        have T29 : Hid (RS w (w29.setCell ⟨w.heap.size + 1, 1, none⟩ (.int .i64 vC)) ⟨((L s).take nA), [], [], vC, 0, 0, 0, 0⟩) := R29.out.store 1 (.int .i64 vC) _ (rfl)
        have G29 : Hid (Blk (w29.setCell ⟨w.heap.size + 1, 1, none⟩ (.int .i64 vC)) hb 9 #[.string ⟨#[32, 99, 111, 110, 110, 61]⟩, .string ⟨#[32, 110, 117, 109, 98, 101, 114, 61]⟩, .string ⟨#[32, 116, 105, 99, 107, 61]⟩]) := H29.out.just (Just.set (w.heap.size + 1) 1 w29 (.int .i64 vC)) hne
        go_wp2_with fail
        obtain ⟨v29, hv29⟩ := name_it (w29.setCell ⟨w.heap.size + 1, 1, none⟩ (.int .i64 vC))
        rw [hv29.out] at T29 G29
        rw [hv29.out]
        clear c fz R29 hv29 H29
        rw [rounds_succ]
        have hc : v29.cell? ⟨hb, 1, none⟩ = some (.string ⟨#[32, 110, 117, 109, 98, 101, 114, 61]⟩) := G29.out.cell 1
        go_wp2_with fail
        have CX := Lib.hid (fun wx => rtextS s ⟨#[32, 110, 117, 109, 98, 101, 114, 61]⟩ nC wx hle hs (by decide) nC true (lit_at_digit h3 h4))
        refine (CX.out _).mono ?_
        rintro e w30 ⟨rfl, b30⟩
        have R30 := Lib.hid (T29.out.on b30)
        clear b30 T29 CX
        have z0 : w30.cell? ⟨w.heap.size, 0, none⟩ = some (.string ⟨#[]⟩) := R30.out.box.cell 0
        have y0 : w30.frozen? ⟨w.heap.size, 0, none⟩ = false := R30.out.box.frozen 0
        have z1 : w30.cell? ⟨w.heap.size, 1, none⟩ = some (.int .i64 0) := R30.out.box.cell 1
        have y1 : w30.frozen? ⟨w.heap.size, 1, none⟩ = false := R30.out.box.frozen 1
        have z2 : w30.cell? ⟨w.heap.size, 2, none⟩ = some (.int .i64 0) := R30.out.box.cell 2
        have y2 : w30.frozen? ⟨w.heap.size, 2, none⟩ = false := R30.out.box.frozen 2
        have z3 : w30.cell? ⟨w.heap.size, 3, none⟩ = some (.string ⟨#[]⟩) := R30.out.box.cell 3
        have y3 : w30.frozen? ⟨w.heap.size, 3, none⟩ = false := R30.out.box.frozen 3
        have z4 : w30.cell? ⟨w.heap.size, 4, none⟩ = some (.string ⟨#[]⟩) := R30.out.box.cell 4
        have y4 : w30.frozen? ⟨w.heap.size, 4, none⟩ = false := R30.out.box.frozen 4
        have z5 : w30.cell? ⟨w.heap.size, 5, none⟩ = some (.int .i64 0) := R30.out.box.cell 5
        have y5 : w30.frozen? ⟨w.heap.size, 5, none⟩ = false := R30.out.box.frozen 5
        have z6 : w30.cell? ⟨w.heap.size, 6, none⟩ = some (.int .i64 0) := R30.out.box.cell 6
        have y6 : w30.frozen? ⟨w.heap.size, 6, none⟩ = false := R30.out.box.frozen 6
        have z7 : w30.cell? ⟨w.heap.size, 7, none⟩ = some (.int .i64 0) := R30.out.box.cell 7
        have y7 : w30.frozen? ⟨w.heap.size, 7, none⟩ = false := R30.out.box.frozen 7
        go_wp2_with fail
        all_goals (try (exfalso; omega))
        obtain ⟨K9, B9⟩ := R30.out.box8 (.string ⟨#[]⟩) (.int .i64 0) (.int .i64 0) (.string ⟨#[]⟩) (.string ⟨#[]⟩) (.int .i64 0) (.int .i64 0) (.int .i64 0)
        obtain ⟨w9, hw9⟩ := name_it (((((((((w30.setCell ⟨w.heap.size, 0, none⟩ (.string ⟨#[]⟩)).setCell ⟨w.heap.size, 1, none⟩ (.int .i64 0)).setCell ⟨w.heap.size, 2, none⟩ (.int .i64 0)).setCell ⟨w.heap.size, 3, none⟩ (.string ⟨#[]⟩)).setCell ⟨w.heap.size, 4, none⟩ (.string ⟨#[]⟩)).setCell ⟨w.heap.size, 5, none⟩ (.int .i64 0)).setCell ⟨w.heap.size, 6, none⟩ (.int .i64 0)).setCell ⟨w.heap.size, 7, none⟩ (.int .i64 0)))
        rw [hw9.out] at K9 B9
        rw [hw9.out]
        clear z0 y0 z1 y1 z2 y2 z3 y3 z4 y4 z5 y5 z6 y6 z7 y7
        have f0 : w9.cell? ⟨w.heap.size, 0, none⟩ = some (.string ⟨#[]⟩) := K9.cell 0
        have f1 : w9.cell? ⟨w.heap.size, 1, none⟩ = some (.int .i64 0) := K9.cell 1
        have f2 : w9.cell? ⟨w.heap.size, 2, none⟩ = some (.int .i64 0) := K9.cell 2
        have f3 : w9.cell? ⟨w.heap.size, 3, none⟩ = some (.string ⟨#[]⟩) := K9.cell 3
        have f4 : w9.cell? ⟨w.heap.size, 4, none⟩ = some (.string ⟨#[]⟩) := K9.cell 4
        have f5 : w9.cell? ⟨w.heap.size, 5, none⟩ = some (.int .i64 0) := K9.cell 5
        have f6 : w9.cell? ⟨w.heap.size, 6, none⟩ = some (.int .i64 0) := K9.cell 6
        have f7 : w9.cell? ⟨w.heap.size, 7, none⟩ = some (.int .i64 0) := K9.cell 7
        refine bodyPost_ret (v := .tuple #[noS, .int .i64 (nC : Nat), .int .i64 280]) (by simp [results, Tryz.results16, go_sem, noS, f0, f1, f2, f3, f4, f5, f6, f7]) rfl ?_
        rw [HV.out]
        exact ⟨rfl, B9⟩
end Go.Proofs.YtfgaiopkclogmaaGreatDoor
