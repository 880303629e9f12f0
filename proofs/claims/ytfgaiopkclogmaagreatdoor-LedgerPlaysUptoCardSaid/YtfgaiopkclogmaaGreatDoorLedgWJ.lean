/- Contract of ledger's Parse: the entry of a line. Printed by gen_parse.py. -/
import Derived.Test.YtfgaiopkclogmaaGreatDoorLedgVJ
import Derived.Test.YtfgaiopkclogmaaGreatDoorLedgUJ
import Derived.Test.YtfgaiopkclogmaaGreatDoorLedgEJ
import Derived.RegionTactic
namespace Go.Proofs.YtfgaiopkclogmaaGreatDoor
open Go Go.RowKit
set_option maxHeartbeats 4000000

theorem ext_take (s : ByteArray) (k : Nat) : s.extract 0 k = bs ((L s).take k) := by
  apply ByteArray.ext; unfold bs L; rw [ByteArray.data_extract]; apply Array.ext'; simp
theorem ext_mid (s : ByteArray) (a b : Nat) : s.extract a b = bs (((L s).drop a).take (b - a)) := by
  apply ByteArray.ext; unfold bs L; rw [ByteArray.data_extract]; apply Array.ext'; simp
def noS : Value := .agg #[.string ⟨#[]⟩, .int .i64 0, .int .i64 0, .string ⟨#[]⟩, .string ⟨#[]⟩, .int .i64 0, .int .i64 0, .int .i64 0]
theorem PS.start (w : World) (s : ByteArray) (hE : EnvT w) : PS w (((w.alloc (.cells #[.string ⟨#[]⟩, .int .i64 0, .int .i64 0, .string ⟨#[]⟩, .string ⟨#[]⟩, .int .i64 0, .int .i64 0, .int .i64 0] tE)).alloc (.cells #[.string s, .int .i64 0, .bool false] 131)).alloc (.cells #[.string ⟨#[]⟩, .int .i64 0, .int .i64 0, .string ⟨#[]⟩, .string ⟨#[]⟩, .int .i64 0, .int .i64 0, .int .i64 0] tE)) s (0, false) noE := by
  obtain ⟨w1, hw1⟩ : ∃ w1, w.alloc (.cells #[.string ⟨#[]⟩, .int .i64 0, .int .i64 0, .string ⟨#[]⟩, .string ⟨#[]⟩, .int .i64 0, .int .i64 0, .int .i64 0] tE) = w1 := ⟨_, rfl⟩
  have b1 : Below w.heap.size w w1 := by rw [← hw1]; exact (Below.refl _ _).alloc (Nat.le_refl _) _
  have z1 : w1.heap.size = w.heap.size + 1 := by rw [← hw1]; exact Array.size_push ..
  have k1 : Blk w1 w.heap.size tE (cellsE noE) := by rw [← hw1]; exact Blk.new w tE _
  rw [hw1]
  obtain ⟨w2, hw2⟩ : ∃ w2, w1.alloc (.cells #[.string s, .int .i64 0, .bool false] 131) = w2 := ⟨_, rfl⟩
  have r2 : Rdr w2 w1.heap.size s (0, false) := by rw [← hw2]; exact Rdr.new w1 s _
  have b2 : Below w.heap.size w w2 := by rw [← hw2]; exact b1.alloc b1.size _
  have k2 : Blk w2 w.heap.size tE (cellsE noE) := by rw [← hw2]; exact k1.alloc _
  have z2 : w2.heap.size = w1.heap.size + 1 := by rw [← hw2]; exact Array.size_push ..
  rw [hw2]
  rw [z1] at r2 z2
  have k3 := Blk.new w2 tE (cellsE noE)
  rw [z2] at k3
  have ba : Below w2.heap.size w2 (w2.alloc (.cells (cellsE noE) tE)) := (Below.refl _ _).alloc (Nat.le_refl _) _
  exact ⟨r2.next ba r2.lt, k3, k2.alloc _, b2.alloc b2.size _, hE⟩

theorem PS.box8 {w0 W : World} {s : ByteArray} {st : St} {e : En} (h : PS w0 W s st e) (v0 v1 v2 v3 v4 v5 v6 v7 : Value) : Blk ((((((((W.setCell ⟨w0.heap.size, 0, none⟩ v0).setCell ⟨w0.heap.size, 1, none⟩ v1).setCell ⟨w0.heap.size, 2, none⟩ v2).setCell ⟨w0.heap.size, 3, none⟩ v3).setCell ⟨w0.heap.size, 4, none⟩ v4).setCell ⟨w0.heap.size, 5, none⟩ v5).setCell ⟨w0.heap.size, 6, none⟩ v6).setCell ⟨w0.heap.size, 7, none⟩ v7) w0.heap.size tE #[v0, v1, v2, v3, v4, v5, v6, v7] ∧ Below w0.heap.size w0 ((((((((W.setCell ⟨w0.heap.size, 0, none⟩ v0).setCell ⟨w0.heap.size, 1, none⟩ v1).setCell ⟨w0.heap.size, 2, none⟩ v2).setCell ⟨w0.heap.size, 3, none⟩ v3).setCell ⟨w0.heap.size, 4, none⟩ v4).setCell ⟨w0.heap.size, 5, none⟩ v5).setCell ⟨w0.heap.size, 6, none⟩ v6).setCell ⟨w0.heap.size, 7, none⟩ v7) := by
  refine ⟨(((((((h.box.set 0 v0).set 1 v1).set 2 v2).set 3 v3).set 4 v4).set 5 v5).set 6 v6).set 7 v7, ?_⟩
  exact h.below.trans (((((((((Below.refl w0.heap.size W).setCell (p := ⟨w0.heap.size, 0, none⟩) (Nat.le_refl _) v0).setCell (p := ⟨w0.heap.size, 1, none⟩) (Nat.le_refl _) v1).setCell (p := ⟨w0.heap.size, 2, none⟩) (Nat.le_refl _) v2).setCell (p := ⟨w0.heap.size, 3, none⟩) (Nat.le_refl _) v3).setCell (p := ⟨w0.heap.size, 4, none⟩) (Nat.le_refl _) v4).setCell (p := ⟨w0.heap.size, 5, none⟩) (Nat.le_refl _) v5).setCell (p := ⟨w0.heap.size, 6, none⟩) (Nat.le_refl _) v6).setCell (p := ⟨w0.heap.size, 7, none⟩) (Nat.le_refl _) v7)
def parV (S : List UInt8) : Value := if parsesB S = true then .tuple #[encE (parsedE S), .int .i64 0, .int .i64 0] else .tuple #[noS, .int .i64 ((parseEnd S).1 : Nat), .int .i64 280]
set_option maxRecDepth 100000 in
theorem parse_any (s : ByteArray) (w : World) (hE : EnvT w) (hs : s.size ≤ 1073741824) :
    Calls Tryz.prog 42 #[.string s] w fun e w' => e = .returned (parV (L s)) ∧ Below w.heap.size w w' := by
  obtain ⟨VR, hVR⟩ := name_it (parV (L s))
  rw [hVR.out]
  have HS := Lib.hid (PS.start w s hE)
  have HW : Hid (5 ≤ w.heap.size) := hE.n
  clear hE
  obtain ⟨g, hg⟩ : ∃ g, g = w.heap.size + 1 := ⟨_, rfl⟩
  have CA : ∀ W, Rdr W g s (0, false) → Calls Tryz.prog 66 #[.pointer (some ⟨g, 0, none⟩), .int .i64 64, .func (.func 54) #[] #[]] W fun e w' => e = .returned (.string (bs ((L s).take (pA (L s)).1))) ∧ Rdr w' g s (pA (L s)) ∧ Just g W w' := fun W hr => (ext_take s (pA (L s)).1 ▸ runname_any g s (0, false) W hr (Nat.zero_le _) hs)
  have CB : ∀ W, Rdr W g s (pA (L s)) → Calls Tryz.prog 67 #[.pointer (some ⟨g, 0, none⟩), .string ⟨#[32, 99, 111, 110, 110, 61]⟩] W fun e w' => e = .returned (.tuple #[]) ∧ Rdr w' g s (pB (L s)) ∧ Just g W w' := fun W hr => (lit_any g s ⟨#[32, 99, 111, 110, 110, 61]⟩ (pA (L s)) W hr (by have := le_A (L s); rw [L_length] at this; exact this) hs (by decide))
  have CC : ∀ W, Rdr W g s (pB (L s)) → Calls Tryz.prog 68 #[.pointer (some ⟨g, 0, none⟩)] W fun e w' => e = .returned (.int .i64 (pC (L s)).1) ∧ Rdr w' g s (pC (L s)).2 ∧ Just g W w' := fun W hr => (number_any g s (pB (L s)) W hr (by have := le_B (L s); rw [L_length] at this; exact this) hs)
  have CD : ∀ W, Rdr W g s (pC (L s)).2 → Calls Tryz.prog 67 #[.pointer (some ⟨g, 0, none⟩), .string ⟨#[32, 110, 117, 109, 98, 101, 114, 61]⟩] W fun e w' => e = .returned (.tuple #[]) ∧ Rdr w' g s (pD (L s)) ∧ Just g W w' := fun W hr => (lit_any g s ⟨#[32, 110, 117, 109, 98, 101, 114, 61]⟩ (pC (L s)).2 W hr (by have := le_C (L s); rw [L_length] at this; exact this) hs (by decide))
  have CE : ∀ W, Rdr W g s (pD (L s)) → Calls Tryz.prog 68 #[.pointer (some ⟨g, 0, none⟩)] W fun e w' => e = .returned (.int .i64 (pE (L s)).1) ∧ Rdr w' g s (pE (L s)).2 ∧ Just g W w' := fun W hr => (number_any g s (pD (L s)) W hr (by have := le_D (L s); rw [L_length] at this; exact this) hs)
  have CF : ∀ W, Rdr W g s (pE (L s)).2 → Calls Tryz.prog 67 #[.pointer (some ⟨g, 0, none⟩), .string ⟨#[32, 116, 105, 99, 107, 61]⟩] W fun e w' => e = .returned (.tuple #[]) ∧ Rdr w' g s (pF (L s)) ∧ Just g W w' := fun W hr => (lit_any g s ⟨#[32, 116, 105, 99, 107, 61]⟩ (pE (L s)).2 W hr (by have := le_E (L s); rw [L_length] at this; exact this) hs (by decide))
  have CG : ∀ W, Rdr W g s (pF (L s)) → Calls Tryz.prog 68 #[.pointer (some ⟨g, 0, none⟩)] W fun e w' => e = .returned (.int .i64 (pG (L s)).1) ∧ Rdr w' g s (pG (L s)).2 ∧ Just g W w' := fun W hr => (number_any g s (pF (L s)) W hr (by have := le_F (L s); rw [L_length] at this; exact this) hs)
  have CH : ∀ W, Rdr W g s (pG (L s)).2 → Calls Tryz.prog 67 #[.pointer (some ⟨g, 0, none⟩), .string ⟨#[32]⟩] W fun e w' => e = .returned (.tuple #[]) ∧ Rdr w' g s (pH (L s)) ∧ Just g W w' := fun W hr => (lit_any g s ⟨#[32]⟩ (pG (L s)).2 W hr (by have := le_G (L s); rw [L_length] at this; exact this) hs (by decide))
  have CI : ∀ W, Rdr W g s (pH (L s)) → EnvT W → 5 ≤ g → Calls Tryz.prog 66 #[.pointer (some ⟨g, 0, none⟩), .int .i64 24, .func (.func 55) #[] #[]] W fun e w' => e = .returned (.string (bs (((L s).drop (pH (L s)).1).take ((pI (L s)).1 - (pH (L s)).1)))) ∧ Rdr w' g s (pI (L s)) ∧ Just g W w' := fun W hr hE hg5 => (ext_mid s (pH (L s)).1 (pI (L s)).1 ▸ runsign_any g s (pH (L s)) W hr (by have := le_H (L s); rw [L_length] at this; exact this) hs hE hg5)
  have CJ : ∀ W, Rdr W g s (pI (L s)) → Calls Tryz.prog 67 #[.pointer (some ⟨g, 0, none⟩), .string ⟨#[32]⟩] W fun e w' => e = .returned (.tuple #[]) ∧ Rdr w' g s (pJ (L s)) ∧ Just g W w' := fun W hr => (lit_any g s ⟨#[32]⟩ (pI (L s)) W hr (by have := le_I (L s); rw [L_length] at this; exact this) hs (by decide))
  have CK : ∀ W, Rdr W g s (pJ (L s)) → Calls Tryz.prog 69 #[.pointer (some ⟨g, 0, none⟩)] W fun e w' => e = .returned (.string (bs (pK (L s)).1)) ∧ Rdr w' g s (pK (L s)).2 ∧ Just g W w' := fun W hr => (target_any g s (pJ (L s)) W hr (by have := le_J (L s); rw [L_length] at this; exact this) hs)
  have CL1 : ∀ W, Rdr W g s (pK (L s)).2 → Calls Tryz.prog 67 #[.pointer (some ⟨g, 0, none⟩), .string ⟨#[32]⟩] W fun e w' => e = .returned (.tuple #[]) ∧ Rdr w' g s (pL (L s)) ∧ Just g W w' := fun W hr => (lit_any g s ⟨#[32]⟩ (pK (L s)).2 W hr (by have := le_K (L s); rw [L_length] at this; exact this) hs (by decide))
  have CM : ∀ W, Rdr W g s (pL (L s)) → Calls Tryz.prog 70 #[.pointer (some ⟨g, 0, none⟩)] W fun e w' => e = .returned (.int .i64 (pM (L s)).1) ∧ Rdr w' g s (pM (L s)).2 ∧ Just g W w' := fun W hr => (status_any g s (pL (L s)) W hr (by have := le_L (L s); rw [L_length] at this; exact this) hs)
  have CN : ∀ W, Rdr W g s (pM (L s)).2 → Calls Tryz.prog 67 #[.pointer (some ⟨g, 0, none⟩), .string ⟨#[32]⟩] W fun e w' => e = .returned (.tuple #[]) ∧ Rdr w' g s (pN (L s)) ∧ Just g W w' := fun W hr => (lit_any g s ⟨#[32]⟩ (pM (L s)).2 W hr (by have := le_M (L s); rw [L_length] at this; exact this) hs (by decide))
  have CO : ∀ W, Rdr W g s (pN (L s)) → Calls Tryz.prog 68 #[.pointer (some ⟨g, 0, none⟩)] W fun e w' => e = .returned (.int .i64 (pO (L s)).1) ∧ Rdr w' g s (parseEnd (L s)) ∧ Just g W w' := fun W hr => (number_any g s (pN (L s)) W hr (by have := le_N (L s); rw [L_length] at this; exact this) hs)
  have hend : parsesB (L s) = (!(parseEnd (L s)).2 && decide ((parseEnd (L s)).1 = (L s).length)) := rfl
  have hpar : parsedE (L s) = ⟨((L s).take (pA (L s)).1), (((L s).drop (pH (L s)).1).take ((pI (L s)).1 - (pH (L s)).1)), (pK (L s)).1, (pC (L s)).1, (pE (L s)).1, (pG (L s)).1, (pM (L s)).1, (pO (L s)).1⟩ := rfl
  have hO := le_O (L s)
  rw [L_length] at hO hend
  unfold parV at hVR
  obtain ⟨nm, hnm⟩ := name_it ((L s).take (pA (L s)).1)
  obtain ⟨mt, hmt⟩ := name_it (((L s).drop (pH (L s)).1).take ((pI (L s)).1 - (pH (L s)).1))
  obtain ⟨tg, htg⟩ := name_it (pK (L s)).1
  obtain ⟨x1, hx1⟩ := name_it (pC (L s)).1
  obtain ⟨x2, hx2⟩ := name_it (pE (L s)).1
  obtain ⟨x7, hx7⟩ := name_it (pG (L s)).1
  obtain ⟨x5, hx5⟩ := name_it (pM (L s)).1
  obtain ⟨x6, hx6⟩ := name_it (pO (L s)).1
  obtain ⟨SA, hSA⟩ := name_it (pA (L s))
  obtain ⟨SB, hSB⟩ := name_it (pB (L s))
  obtain ⟨SC, hSC⟩ := name_it (pC (L s)).2
  obtain ⟨SD, hSD⟩ := name_it (pD (L s))
  obtain ⟨SE, hSE⟩ := name_it (pE (L s)).2
  obtain ⟨SF, hSF⟩ := name_it (pF (L s))
  obtain ⟨SG, hSG⟩ := name_it (pG (L s)).2
  obtain ⟨SH, hSH⟩ := name_it (pH (L s))
  obtain ⟨SI, hSI⟩ := name_it (pI (L s))
  obtain ⟨SJ, hSJ⟩ := name_it (pJ (L s))
  obtain ⟨SK, hSK⟩ := name_it (pK (L s)).2
  obtain ⟨SL1, hSL1⟩ := name_it (pL (L s))
  obtain ⟨SM, hSM⟩ := name_it (pM (L s)).2
  obtain ⟨SN, hSN⟩ := name_it (pN (L s))
  obtain ⟨SO, hSO⟩ := name_it (parseEnd (L s))
  rw [hpar, hend] at hVR
  rw [hSO.out] at hO hVR
  rw [hnm.out, hSA.out] at CA
  rw [hSB.out, hSA.out] at CB
  rw [hx1.out, hSC.out, hSB.out] at CC
  rw [hSD.out, hSC.out] at CD
  rw [hx2.out, hSE.out, hSD.out] at CE
  rw [hSF.out, hSE.out] at CF
  rw [hx7.out, hSG.out, hSF.out] at CG
  rw [hSH.out, hSG.out] at CH
  rw [hmt.out, hSI.out, hSH.out] at CI
  rw [hSJ.out, hSI.out] at CJ
  rw [htg.out, hSK.out, hSJ.out] at CK
  rw [hSL1.out, hSK.out] at CL1
  rw [hx5.out, hSM.out, hSL1.out] at CM
  rw [hSN.out, hSM.out] at CN
  rw [hx6.out, hSO.out, hSN.out] at CO
  rw [hnm.out, hmt.out, htg.out, hx1.out, hx2.out, hx7.out, hx5.out, hx6.out] at hVR
  replace CA := Lib.hid CA
  replace CB := Lib.hid CB
  replace CC := Lib.hid CC
  replace CD := Lib.hid CD
  replace CE := Lib.hid CE
  replace CF := Lib.hid CF
  replace CG := Lib.hid CG
  replace CH := Lib.hid CH
  replace CI := Lib.hid CI
  replace CJ := Lib.hid CJ
  replace CK := Lib.hid CK
  replace CL1 := Lib.hid CL1
  replace CM := Lib.hid CM
  replace CN := Lib.hid CN
  replace CO := Lib.hid CO
  clear hend hpar hSA hSB hSC hSD hSE hSF hSG hSH hSI hSJ hSK hSL1 hSM hSN hSO hnm hmt htg hx1 hx2 hx7 hx5 hx6
  subst hg
  go_enter Tryz.func42, Tryz.ntmps42
  go_wp2_with fail
  have HS : Hid (PS w _ s (0, false) ⟨[], [], [], 0, 0, 0, 0, 0⟩) := HS
  refine (CA.out _ HS.out.rdr).mono ?_
  rintro e w1 ⟨rfl, r1, j1⟩
  have Q1 := Lib.hid (HS.out.call r1 j1)
  clear r1 j1 HS
  have c : w1.cell? ⟨w.heap.size + 2, 0, none⟩ = some (.string (bs [])) := Q1.out.ent.cell 0
  have fz := Q1.out.ent.frozen 0
  have T1 : Hid (PS w (w1.setCell ⟨w.heap.size + 2, 0, none⟩ (.string (bs nm))) s SA ⟨nm, [], [], 0, 0, 0, 0, 0⟩) := Q1.out.store 0 (.string (bs nm)) _ rfl
  go_wp2_with fail
  obtain ⟨v1, hv1⟩ := name_it (w1.setCell ⟨w.heap.size + 2, 0, none⟩ (.string (bs nm)))
  rw [hv1.out] at T1
  rw [hv1.out]
  clear c fz Q1 hv1
  refine (CB.out _ T1.out.rdr).mono ?_
  rintro e w2 ⟨rfl, r2, j2⟩
  have Q2 := Lib.hid (T1.out.call r2 j2)
  clear r2 j2 T1
  go_wp2_with fail
  refine (CC.out _ Q2.out.rdr).mono ?_
  rintro e w3 ⟨rfl, r3, j3⟩
  have Q3 := Lib.hid (Q2.out.call r3 j3)
  clear r3 j3 Q2
  have c : w3.cell? ⟨w.heap.size + 2, 1, none⟩ = some (.int .i64 0) := Q3.out.ent.cell 1
  have fz := Q3.out.ent.frozen 1
  have T3 : Hid (PS w (w3.setCell ⟨w.heap.size + 2, 1, none⟩ (.int .i64 x1)) s SC ⟨nm, [], [], x1, 0, 0, 0, 0⟩) := Q3.out.store 1 (.int .i64 x1) _ rfl
  go_wp2_with fail
  obtain ⟨v3, hv3⟩ := name_it (w3.setCell ⟨w.heap.size + 2, 1, none⟩ (.int .i64 x1))
  rw [hv3.out] at T3
  rw [hv3.out]
  clear c fz Q3 hv3
  refine (CD.out _ T3.out.rdr).mono ?_
  rintro e w4 ⟨rfl, r4, j4⟩
  have Q4 := Lib.hid (T3.out.call r4 j4)
  clear r4 j4 T3
  go_wp2_with fail
  refine (CE.out _ Q4.out.rdr).mono ?_
  rintro e w5 ⟨rfl, r5, j5⟩
  have Q5 := Lib.hid (Q4.out.call r5 j5)
  clear r5 j5 Q4
  have c : w5.cell? ⟨w.heap.size + 2, 2, none⟩ = some (.int .i64 0) := Q5.out.ent.cell 2
  have fz := Q5.out.ent.frozen 2
  have T5 : Hid (PS w (w5.setCell ⟨w.heap.size + 2, 2, none⟩ (.int .i64 x2)) s SE ⟨nm, [], [], x1, x2, 0, 0, 0⟩) := Q5.out.store 2 (.int .i64 x2) _ rfl
  go_wp2_with fail
  obtain ⟨v5, hv5⟩ := name_it (w5.setCell ⟨w.heap.size + 2, 2, none⟩ (.int .i64 x2))
  rw [hv5.out] at T5
  rw [hv5.out]
  clear c fz Q5 hv5
  refine (CF.out _ T5.out.rdr).mono ?_
  rintro e w6 ⟨rfl, r6, j6⟩
  have Q6 := Lib.hid (T5.out.call r6 j6)
  clear r6 j6 T5
  go_wp2_with fail
  refine (CG.out _ Q6.out.rdr).mono ?_
  rintro e w7 ⟨rfl, r7, j7⟩
  have Q7 := Lib.hid (Q6.out.call r7 j7)
  clear r7 j7 Q6
  have c : w7.cell? ⟨w.heap.size + 2, 7, none⟩ = some (.int .i64 0) := Q7.out.ent.cell 7
  have fz := Q7.out.ent.frozen 7
  have T7 : Hid (PS w (w7.setCell ⟨w.heap.size + 2, 7, none⟩ (.int .i64 x7)) s SG ⟨nm, [], [], x1, x2, x7, 0, 0⟩) := Q7.out.store 7 (.int .i64 x7) _ rfl
  go_wp2_with fail
  obtain ⟨v7, hv7⟩ := name_it (w7.setCell ⟨w.heap.size + 2, 7, none⟩ (.int .i64 x7))
  rw [hv7.out] at T7
  rw [hv7.out]
  clear c fz Q7 hv7
  refine (CH.out _ T7.out.rdr).mono ?_
  rintro e w8 ⟨rfl, r8, j8⟩
  have Q8 := Lib.hid (T7.out.call r8 j8)
  clear r8 j8 T7
  go_wp2_with fail
  have HWE := Q8.out.env
  have HW5 : 5 ≤ w.heap.size + 1 := Nat.le_succ_of_le HW.out
  refine (CI.out _ Q8.out.rdr HWE HW5).mono ?_
  rintro e w9 ⟨rfl, r9, j9⟩
  have Q9 := Lib.hid (Q8.out.call r9 j9)
  clear r9 j9 Q8 HWE HW5
  have c : w9.cell? ⟨w.heap.size + 2, 3, none⟩ = some (.string (bs [])) := Q9.out.ent.cell 3
  have fz := Q9.out.ent.frozen 3
  have T9 : Hid (PS w (w9.setCell ⟨w.heap.size + 2, 3, none⟩ (.string (bs mt))) s SI ⟨nm, mt, [], x1, x2, x7, 0, 0⟩) := Q9.out.store 3 (.string (bs mt)) _ rfl
  go_wp2_with fail
  obtain ⟨v9, hv9⟩ := name_it (w9.setCell ⟨w.heap.size + 2, 3, none⟩ (.string (bs mt)))
  rw [hv9.out] at T9
  rw [hv9.out]
  clear c fz Q9 hv9
  refine (CJ.out _ T9.out.rdr).mono ?_
  rintro e w10 ⟨rfl, r10, j10⟩
  have Q10 := Lib.hid (T9.out.call r10 j10)
  clear r10 j10 T9
  go_wp2_with fail
  refine (CK.out _ Q10.out.rdr).mono ?_
  rintro e w11 ⟨rfl, r11, j11⟩
  have Q11 := Lib.hid (Q10.out.call r11 j11)
  clear r11 j11 Q10
  have c : w11.cell? ⟨w.heap.size + 2, 4, none⟩ = some (.string (bs [])) := Q11.out.ent.cell 4
  have fz := Q11.out.ent.frozen 4
  have T11 : Hid (PS w (w11.setCell ⟨w.heap.size + 2, 4, none⟩ (.string (bs tg))) s SK ⟨nm, mt, tg, x1, x2, x7, 0, 0⟩) := Q11.out.store 4 (.string (bs tg)) _ rfl
  go_wp2_with fail
  obtain ⟨v11, hv11⟩ := name_it (w11.setCell ⟨w.heap.size + 2, 4, none⟩ (.string (bs tg)))
  rw [hv11.out] at T11
  rw [hv11.out]
  clear c fz Q11 hv11
  refine (CL1.out _ T11.out.rdr).mono ?_
  rintro e w12 ⟨rfl, r12, j12⟩
  have Q12 := Lib.hid (T11.out.call r12 j12)
  clear r12 j12 T11
  go_wp2_with fail
  refine (CM.out _ Q12.out.rdr).mono ?_
  rintro e w13 ⟨rfl, r13, j13⟩
  have Q13 := Lib.hid (Q12.out.call r13 j13)
  clear r13 j13 Q12
  have c : w13.cell? ⟨w.heap.size + 2, 5, none⟩ = some (.int .i64 0) := Q13.out.ent.cell 5
  have fz := Q13.out.ent.frozen 5
  have T13 : Hid (PS w (w13.setCell ⟨w.heap.size + 2, 5, none⟩ (.int .i64 x5)) s SM ⟨nm, mt, tg, x1, x2, x7, x5, 0⟩) := Q13.out.store 5 (.int .i64 x5) _ rfl
  go_wp2_with fail
  obtain ⟨v13, hv13⟩ := name_it (w13.setCell ⟨w.heap.size + 2, 5, none⟩ (.int .i64 x5))
  rw [hv13.out] at T13
  rw [hv13.out]
  clear c fz Q13 hv13
  refine (CN.out _ T13.out.rdr).mono ?_
  rintro e w14 ⟨rfl, r14, j14⟩
  have Q14 := Lib.hid (T13.out.call r14 j14)
  clear r14 j14 T13
  go_wp2_with fail
  refine (CO.out _ Q14.out.rdr).mono ?_
  rintro e w15 ⟨rfl, r15, j15⟩
  have Q15 := Lib.hid (Q14.out.call r15 j15)
  clear r15 j15 Q14
  have c : w15.cell? ⟨w.heap.size + 2, 6, none⟩ = some (.int .i64 0) := Q15.out.ent.cell 6
  have fz := Q15.out.ent.frozen 6
  have T15 : Hid (PS w (w15.setCell ⟨w.heap.size + 1 + 1, 6, none⟩ (.int .i64 x6)) s SO ⟨nm, mt, tg, x1, x2, x7, x5, x6⟩) := Q15.out.store 6 (.int .i64 x6) _ rfl
  obtain ⟨v15, hv15⟩ := name_it (w15.setCell ⟨w.heap.size + 1 + 1, 6, none⟩ (.int .i64 x6))
  obtain ⟨n, b⟩ := SO
  simp only [] at hO hVR
  have k1 := T15.out.rdr.c1
  have k2 := T15.out.rdr.c2
  simp only [] at k1 k2
  replace k1 : (w15.setCell ⟨w.heap.size + 1 + 1, 6, none⟩ (.int .i64 x6)).cell? ⟨w.heap.size + 1, 1, none⟩ = some (.int .i64 (n : Nat)) := k1
  replace k2 : (w15.setCell ⟨w.heap.size + 1 + 1, 6, none⟩ (.int .i64 x6)).cell? ⟨w.heap.size + 1, 2, none⟩ = some (.bool b) := k2
  cases b with
  | true =>
    have hV : Hid (VR = .tuple #[noS, .int .i64 (n : Nat), .int .i64 280]) := hVR.out.symm
    clear hVR
    have z0 : (w15.setCell ⟨w.heap.size + 1 + 1, 6, none⟩ (.int .i64 x6)).cell? ⟨w.heap.size, 0, none⟩ = some (.string ⟨#[]⟩) := T15.out.box.cell 0
    have y0 : (w15.setCell ⟨w.heap.size + 1 + 1, 6, none⟩ (.int .i64 x6)).frozen? ⟨w.heap.size, 0, none⟩ = false := T15.out.box.frozen 0
    have z1 : (w15.setCell ⟨w.heap.size + 1 + 1, 6, none⟩ (.int .i64 x6)).cell? ⟨w.heap.size, 1, none⟩ = some (.int .i64 0) := T15.out.box.cell 1
    have y1 : (w15.setCell ⟨w.heap.size + 1 + 1, 6, none⟩ (.int .i64 x6)).frozen? ⟨w.heap.size, 1, none⟩ = false := T15.out.box.frozen 1
    have z2 : (w15.setCell ⟨w.heap.size + 1 + 1, 6, none⟩ (.int .i64 x6)).cell? ⟨w.heap.size, 2, none⟩ = some (.int .i64 0) := T15.out.box.cell 2
    have y2 : (w15.setCell ⟨w.heap.size + 1 + 1, 6, none⟩ (.int .i64 x6)).frozen? ⟨w.heap.size, 2, none⟩ = false := T15.out.box.frozen 2
    have z3 : (w15.setCell ⟨w.heap.size + 1 + 1, 6, none⟩ (.int .i64 x6)).cell? ⟨w.heap.size, 3, none⟩ = some (.string ⟨#[]⟩) := T15.out.box.cell 3
    have y3 : (w15.setCell ⟨w.heap.size + 1 + 1, 6, none⟩ (.int .i64 x6)).frozen? ⟨w.heap.size, 3, none⟩ = false := T15.out.box.frozen 3
    have z4 : (w15.setCell ⟨w.heap.size + 1 + 1, 6, none⟩ (.int .i64 x6)).cell? ⟨w.heap.size, 4, none⟩ = some (.string ⟨#[]⟩) := T15.out.box.cell 4
    have y4 : (w15.setCell ⟨w.heap.size + 1 + 1, 6, none⟩ (.int .i64 x6)).frozen? ⟨w.heap.size, 4, none⟩ = false := T15.out.box.frozen 4
    have z5 : (w15.setCell ⟨w.heap.size + 1 + 1, 6, none⟩ (.int .i64 x6)).cell? ⟨w.heap.size, 5, none⟩ = some (.int .i64 0) := T15.out.box.cell 5
    have y5 : (w15.setCell ⟨w.heap.size + 1 + 1, 6, none⟩ (.int .i64 x6)).frozen? ⟨w.heap.size, 5, none⟩ = false := T15.out.box.frozen 5
    have z6 : (w15.setCell ⟨w.heap.size + 1 + 1, 6, none⟩ (.int .i64 x6)).cell? ⟨w.heap.size, 6, none⟩ = some (.int .i64 0) := T15.out.box.cell 6
    have y6 : (w15.setCell ⟨w.heap.size + 1 + 1, 6, none⟩ (.int .i64 x6)).frozen? ⟨w.heap.size, 6, none⟩ = false := T15.out.box.frozen 6
    have z7 : (w15.setCell ⟨w.heap.size + 1 + 1, 6, none⟩ (.int .i64 x6)).cell? ⟨w.heap.size, 7, none⟩ = some (.int .i64 0) := T15.out.box.cell 7
    have y7 : (w15.setCell ⟨w.heap.size + 1 + 1, 6, none⟩ (.int .i64 x6)).frozen? ⟨w.heap.size, 7, none⟩ = false := T15.out.box.frozen 7
    go_wp2_with fail
    rw [hv15.out]
    rw [hv15.out] at T15 k1 k2 z0 y0 z1 y1 z2 y2 z3 y3 z4 y4 z5 y5 z6 y6 z7 y7
    clear c fz Q15 hv15
    go_region
    all_goals
      obtain ⟨K9, B9⟩ := T15.out.box8 (.string ⟨#[]⟩) (.int .i64 0) (.int .i64 0) (.string ⟨#[]⟩) (.string ⟨#[]⟩) (.int .i64 0) (.int .i64 0) (.int .i64 0)
      replace B9 := B9.drew
      replace K9 := K9.below (Below.drew (Below.refl (((((((((v15.setCell ⟨w.heap.size, 0, none⟩ (.string ⟨#[]⟩)).setCell ⟨w.heap.size, 1, none⟩ (.int .i64 0)).setCell ⟨w.heap.size, 2, none⟩ (.int .i64 0)).setCell ⟨w.heap.size, 3, none⟩ (.string ⟨#[]⟩)).setCell ⟨w.heap.size, 4, none⟩ (.string ⟨#[]⟩)).setCell ⟨w.heap.size, 5, none⟩ (.int .i64 0)).setCell ⟨w.heap.size, 6, none⟩ (.int .i64 0)).setCell ⟨w.heap.size, 7, none⟩ (.int .i64 0))).heap.size _)) K9.lt
      try go_wp2_with fail
      obtain ⟨w9, hw9⟩ := name_it ((((((((((v15.setCell ⟨w.heap.size, 0, none⟩ (.string ⟨#[]⟩)).setCell ⟨w.heap.size, 1, none⟩ (.int .i64 0)).setCell ⟨w.heap.size, 2, none⟩ (.int .i64 0)).setCell ⟨w.heap.size, 3, none⟩ (.string ⟨#[]⟩)).setCell ⟨w.heap.size, 4, none⟩ (.string ⟨#[]⟩)).setCell ⟨w.heap.size, 5, none⟩ (.int .i64 0)).setCell ⟨w.heap.size, 6, none⟩ (.int .i64 0)).setCell ⟨w.heap.size, 7, none⟩ (.int .i64 0))).drew)
      rw [hw9.out] at K9 B9
      rw [hw9.out]
      have f0 : w9.cell? ⟨w.heap.size, 0, none⟩ = some (.string ⟨#[]⟩) := K9.cell 0
      have f1 : w9.cell? ⟨w.heap.size, 1, none⟩ = some (.int .i64 0) := K9.cell 1
      have f2 : w9.cell? ⟨w.heap.size, 2, none⟩ = some (.int .i64 0) := K9.cell 2
      have f3 : w9.cell? ⟨w.heap.size, 3, none⟩ = some (.string ⟨#[]⟩) := K9.cell 3
      have f4 : w9.cell? ⟨w.heap.size, 4, none⟩ = some (.string ⟨#[]⟩) := K9.cell 4
      have f5 : w9.cell? ⟨w.heap.size, 5, none⟩ = some (.int .i64 0) := K9.cell 5
      have f6 : w9.cell? ⟨w.heap.size, 6, none⟩ = some (.int .i64 0) := K9.cell 6
      have f7 : w9.cell? ⟨w.heap.size, 7, none⟩ = some (.int .i64 0) := K9.cell 7
      refine bodyPost_ret (v := .tuple #[noS, .int .i64 (n : Nat), .int .i64 280]) (by simp [results, Tryz.results42, go_sem, noS, f0, f1, f2, f3, f4, f5, f6, f7]) rfl ?_
      rw [hV.out]
      exact ⟨rfl, B9⟩
  | false =>
    by_cases hlt : n < s.size
    · have hV : Hid (VR = .tuple #[noS, .int .i64 (n : Nat), .int .i64 280]) := by
        rw [← hVR.out]
        show (if (!false && decide (n = s.size)) = true then _ else _) = _
        rw [decide_eq_false (by omega)]; rfl
      clear hVR
      have d1 : decide ((n : Int) < (s.size : Int)) = true := decide_eq_true (by omega)
      have d1n : decide (n < s.size) = true := decide_eq_true hlt
      have z0 : (w15.setCell ⟨w.heap.size + 1 + 1, 6, none⟩ (.int .i64 x6)).cell? ⟨w.heap.size, 0, none⟩ = some (.string ⟨#[]⟩) := T15.out.box.cell 0
      have y0 : (w15.setCell ⟨w.heap.size + 1 + 1, 6, none⟩ (.int .i64 x6)).frozen? ⟨w.heap.size, 0, none⟩ = false := T15.out.box.frozen 0
      have z1 : (w15.setCell ⟨w.heap.size + 1 + 1, 6, none⟩ (.int .i64 x6)).cell? ⟨w.heap.size, 1, none⟩ = some (.int .i64 0) := T15.out.box.cell 1
      have y1 : (w15.setCell ⟨w.heap.size + 1 + 1, 6, none⟩ (.int .i64 x6)).frozen? ⟨w.heap.size, 1, none⟩ = false := T15.out.box.frozen 1
      have z2 : (w15.setCell ⟨w.heap.size + 1 + 1, 6, none⟩ (.int .i64 x6)).cell? ⟨w.heap.size, 2, none⟩ = some (.int .i64 0) := T15.out.box.cell 2
      have y2 : (w15.setCell ⟨w.heap.size + 1 + 1, 6, none⟩ (.int .i64 x6)).frozen? ⟨w.heap.size, 2, none⟩ = false := T15.out.box.frozen 2
      have z3 : (w15.setCell ⟨w.heap.size + 1 + 1, 6, none⟩ (.int .i64 x6)).cell? ⟨w.heap.size, 3, none⟩ = some (.string ⟨#[]⟩) := T15.out.box.cell 3
      have y3 : (w15.setCell ⟨w.heap.size + 1 + 1, 6, none⟩ (.int .i64 x6)).frozen? ⟨w.heap.size, 3, none⟩ = false := T15.out.box.frozen 3
      have z4 : (w15.setCell ⟨w.heap.size + 1 + 1, 6, none⟩ (.int .i64 x6)).cell? ⟨w.heap.size, 4, none⟩ = some (.string ⟨#[]⟩) := T15.out.box.cell 4
      have y4 : (w15.setCell ⟨w.heap.size + 1 + 1, 6, none⟩ (.int .i64 x6)).frozen? ⟨w.heap.size, 4, none⟩ = false := T15.out.box.frozen 4
      have z5 : (w15.setCell ⟨w.heap.size + 1 + 1, 6, none⟩ (.int .i64 x6)).cell? ⟨w.heap.size, 5, none⟩ = some (.int .i64 0) := T15.out.box.cell 5
      have y5 : (w15.setCell ⟨w.heap.size + 1 + 1, 6, none⟩ (.int .i64 x6)).frozen? ⟨w.heap.size, 5, none⟩ = false := T15.out.box.frozen 5
      have z6 : (w15.setCell ⟨w.heap.size + 1 + 1, 6, none⟩ (.int .i64 x6)).cell? ⟨w.heap.size, 6, none⟩ = some (.int .i64 0) := T15.out.box.cell 6
      have y6 : (w15.setCell ⟨w.heap.size + 1 + 1, 6, none⟩ (.int .i64 x6)).frozen? ⟨w.heap.size, 6, none⟩ = false := T15.out.box.frozen 6
      have z7 : (w15.setCell ⟨w.heap.size + 1 + 1, 6, none⟩ (.int .i64 x6)).cell? ⟨w.heap.size, 7, none⟩ = some (.int .i64 0) := T15.out.box.cell 7
      have y7 : (w15.setCell ⟨w.heap.size + 1 + 1, 6, none⟩ (.int .i64 x6)).frozen? ⟨w.heap.size, 7, none⟩ = false := T15.out.box.frozen 7
      go_wp2_with fail
      rw [hv15.out]
      rw [hv15.out] at T15 k1 k2 z0 y0 z1 y1 z2 y2 z3 y3 z4 y4 z5 y5 z6 y6 z7 y7
      clear c fz Q15 hv15
      go_region
      all_goals
        obtain ⟨K9, B9⟩ := T15.out.box8 (.string ⟨#[]⟩) (.int .i64 0) (.int .i64 0) (.string ⟨#[]⟩) (.string ⟨#[]⟩) (.int .i64 0) (.int .i64 0) (.int .i64 0)
        replace B9 := B9.drew
        replace K9 := K9.below (Below.drew (Below.refl (((((((((v15.setCell ⟨w.heap.size, 0, none⟩ (.string ⟨#[]⟩)).setCell ⟨w.heap.size, 1, none⟩ (.int .i64 0)).setCell ⟨w.heap.size, 2, none⟩ (.int .i64 0)).setCell ⟨w.heap.size, 3, none⟩ (.string ⟨#[]⟩)).setCell ⟨w.heap.size, 4, none⟩ (.string ⟨#[]⟩)).setCell ⟨w.heap.size, 5, none⟩ (.int .i64 0)).setCell ⟨w.heap.size, 6, none⟩ (.int .i64 0)).setCell ⟨w.heap.size, 7, none⟩ (.int .i64 0))).heap.size _)) K9.lt
        try go_wp2_with fail
        obtain ⟨w9, hw9⟩ := name_it ((((((((((v15.setCell ⟨w.heap.size, 0, none⟩ (.string ⟨#[]⟩)).setCell ⟨w.heap.size, 1, none⟩ (.int .i64 0)).setCell ⟨w.heap.size, 2, none⟩ (.int .i64 0)).setCell ⟨w.heap.size, 3, none⟩ (.string ⟨#[]⟩)).setCell ⟨w.heap.size, 4, none⟩ (.string ⟨#[]⟩)).setCell ⟨w.heap.size, 5, none⟩ (.int .i64 0)).setCell ⟨w.heap.size, 6, none⟩ (.int .i64 0)).setCell ⟨w.heap.size, 7, none⟩ (.int .i64 0))).drew)
        rw [hw9.out] at K9 B9
        rw [hw9.out]
        have f0 : w9.cell? ⟨w.heap.size, 0, none⟩ = some (.string ⟨#[]⟩) := K9.cell 0
        have f1 : w9.cell? ⟨w.heap.size, 1, none⟩ = some (.int .i64 0) := K9.cell 1
        have f2 : w9.cell? ⟨w.heap.size, 2, none⟩ = some (.int .i64 0) := K9.cell 2
        have f3 : w9.cell? ⟨w.heap.size, 3, none⟩ = some (.string ⟨#[]⟩) := K9.cell 3
        have f4 : w9.cell? ⟨w.heap.size, 4, none⟩ = some (.string ⟨#[]⟩) := K9.cell 4
        have f5 : w9.cell? ⟨w.heap.size, 5, none⟩ = some (.int .i64 0) := K9.cell 5
        have f6 : w9.cell? ⟨w.heap.size, 6, none⟩ = some (.int .i64 0) := K9.cell 6
        have f7 : w9.cell? ⟨w.heap.size, 7, none⟩ = some (.int .i64 0) := K9.cell 7
        refine bodyPost_ret (v := .tuple #[noS, .int .i64 (n : Nat), .int .i64 280]) (by simp [results, Tryz.results42, go_sem, noS, f0, f1, f2, f3, f4, f5, f6, f7]) rfl ?_
        rw [hV.out]
        exact ⟨rfl, B9⟩
    · obtain rfl : n = s.size := by omega
      have hV : Hid (VR = .tuple #[encE ⟨nm, mt, tg, x1, x2, x7, x5, x6⟩, .int .i64 0, .int .i64 0]) := by
        rw [← hVR.out]
        show (if (!false && decide (s.size = s.size)) = true then _ else _) = _
        rw [decide_eq_true rfl]; rfl
      clear hVR
      have z0 : (w15.setCell ⟨w.heap.size + 1 + 1, 6, none⟩ (.int .i64 x6)).cell? ⟨w.heap.size, 0, none⟩ = some (.string ⟨#[]⟩) := T15.out.box.cell 0
      have y0 : (w15.setCell ⟨w.heap.size + 1 + 1, 6, none⟩ (.int .i64 x6)).frozen? ⟨w.heap.size, 0, none⟩ = false := T15.out.box.frozen 0
      have e0 : (w15.setCell ⟨w.heap.size + 1 + 1, 6, none⟩ (.int .i64 x6)).cell? ⟨w.heap.size + 1 + 1, 0, none⟩ = some (.string (bs nm)) := T15.out.ent.cell 0
      have z1 : (w15.setCell ⟨w.heap.size + 1 + 1, 6, none⟩ (.int .i64 x6)).cell? ⟨w.heap.size, 1, none⟩ = some (.int .i64 0) := T15.out.box.cell 1
      have y1 : (w15.setCell ⟨w.heap.size + 1 + 1, 6, none⟩ (.int .i64 x6)).frozen? ⟨w.heap.size, 1, none⟩ = false := T15.out.box.frozen 1
      have e1 : (w15.setCell ⟨w.heap.size + 1 + 1, 6, none⟩ (.int .i64 x6)).cell? ⟨w.heap.size + 1 + 1, 1, none⟩ = some (.int .i64 x1) := T15.out.ent.cell 1
      have z2 : (w15.setCell ⟨w.heap.size + 1 + 1, 6, none⟩ (.int .i64 x6)).cell? ⟨w.heap.size, 2, none⟩ = some (.int .i64 0) := T15.out.box.cell 2
      have y2 : (w15.setCell ⟨w.heap.size + 1 + 1, 6, none⟩ (.int .i64 x6)).frozen? ⟨w.heap.size, 2, none⟩ = false := T15.out.box.frozen 2
      have e2 : (w15.setCell ⟨w.heap.size + 1 + 1, 6, none⟩ (.int .i64 x6)).cell? ⟨w.heap.size + 1 + 1, 2, none⟩ = some (.int .i64 x2) := T15.out.ent.cell 2
      have z3 : (w15.setCell ⟨w.heap.size + 1 + 1, 6, none⟩ (.int .i64 x6)).cell? ⟨w.heap.size, 3, none⟩ = some (.string ⟨#[]⟩) := T15.out.box.cell 3
      have y3 : (w15.setCell ⟨w.heap.size + 1 + 1, 6, none⟩ (.int .i64 x6)).frozen? ⟨w.heap.size, 3, none⟩ = false := T15.out.box.frozen 3
      have e3 : (w15.setCell ⟨w.heap.size + 1 + 1, 6, none⟩ (.int .i64 x6)).cell? ⟨w.heap.size + 1 + 1, 3, none⟩ = some (.string (bs mt)) := T15.out.ent.cell 3
      have z4 : (w15.setCell ⟨w.heap.size + 1 + 1, 6, none⟩ (.int .i64 x6)).cell? ⟨w.heap.size, 4, none⟩ = some (.string ⟨#[]⟩) := T15.out.box.cell 4
      have y4 : (w15.setCell ⟨w.heap.size + 1 + 1, 6, none⟩ (.int .i64 x6)).frozen? ⟨w.heap.size, 4, none⟩ = false := T15.out.box.frozen 4
      have e4 : (w15.setCell ⟨w.heap.size + 1 + 1, 6, none⟩ (.int .i64 x6)).cell? ⟨w.heap.size + 1 + 1, 4, none⟩ = some (.string (bs tg)) := T15.out.ent.cell 4
      have z5 : (w15.setCell ⟨w.heap.size + 1 + 1, 6, none⟩ (.int .i64 x6)).cell? ⟨w.heap.size, 5, none⟩ = some (.int .i64 0) := T15.out.box.cell 5
      have y5 : (w15.setCell ⟨w.heap.size + 1 + 1, 6, none⟩ (.int .i64 x6)).frozen? ⟨w.heap.size, 5, none⟩ = false := T15.out.box.frozen 5
      have e5 : (w15.setCell ⟨w.heap.size + 1 + 1, 6, none⟩ (.int .i64 x6)).cell? ⟨w.heap.size + 1 + 1, 5, none⟩ = some (.int .i64 x5) := T15.out.ent.cell 5
      have z6 : (w15.setCell ⟨w.heap.size + 1 + 1, 6, none⟩ (.int .i64 x6)).cell? ⟨w.heap.size, 6, none⟩ = some (.int .i64 0) := T15.out.box.cell 6
      have y6 : (w15.setCell ⟨w.heap.size + 1 + 1, 6, none⟩ (.int .i64 x6)).frozen? ⟨w.heap.size, 6, none⟩ = false := T15.out.box.frozen 6
      have e6 : (w15.setCell ⟨w.heap.size + 1 + 1, 6, none⟩ (.int .i64 x6)).cell? ⟨w.heap.size + 1 + 1, 6, none⟩ = some (.int .i64 x6) := T15.out.ent.cell 6
      have z7 : (w15.setCell ⟨w.heap.size + 1 + 1, 6, none⟩ (.int .i64 x6)).cell? ⟨w.heap.size, 7, none⟩ = some (.int .i64 0) := T15.out.box.cell 7
      have y7 : (w15.setCell ⟨w.heap.size + 1 + 1, 6, none⟩ (.int .i64 x6)).frozen? ⟨w.heap.size, 7, none⟩ = false := T15.out.box.frozen 7
      have e7 : (w15.setCell ⟨w.heap.size + 1 + 1, 6, none⟩ (.int .i64 x6)).cell? ⟨w.heap.size + 1 + 1, 7, none⟩ = some (.int .i64 x7) := T15.out.ent.cell 7
      go_wp2_with fail
      rw [hv15.out]
      rw [hv15.out] at T15
      obtain ⟨K9, B9⟩ := T15.out.box8 (.string (bs nm)) (.int .i64 x1) (.int .i64 x2) (.string (bs mt)) (.string (bs tg)) (.int .i64 x5) (.int .i64 x6) (.int .i64 x7)
      try go_wp2_with fail
      obtain ⟨w9, hw9⟩ := name_it (((((((((v15.setCell ⟨w.heap.size, 0, none⟩ (.string (bs nm))).setCell ⟨w.heap.size, 1, none⟩ (.int .i64 x1)).setCell ⟨w.heap.size, 2, none⟩ (.int .i64 x2)).setCell ⟨w.heap.size, 3, none⟩ (.string (bs mt))).setCell ⟨w.heap.size, 4, none⟩ (.string (bs tg))).setCell ⟨w.heap.size, 5, none⟩ (.int .i64 x5)).setCell ⟨w.heap.size, 6, none⟩ (.int .i64 x6)).setCell ⟨w.heap.size, 7, none⟩ (.int .i64 x7)))
      rw [hw9.out] at K9 B9
      rw [hw9.out]
      have f0 : w9.cell? ⟨w.heap.size, 0, none⟩ = some (.string (bs nm)) := K9.cell 0
      have f1 : w9.cell? ⟨w.heap.size, 1, none⟩ = some (.int .i64 x1) := K9.cell 1
      have f2 : w9.cell? ⟨w.heap.size, 2, none⟩ = some (.int .i64 x2) := K9.cell 2
      have f3 : w9.cell? ⟨w.heap.size, 3, none⟩ = some (.string (bs mt)) := K9.cell 3
      have f4 : w9.cell? ⟨w.heap.size, 4, none⟩ = some (.string (bs tg)) := K9.cell 4
      have f5 : w9.cell? ⟨w.heap.size, 5, none⟩ = some (.int .i64 x5) := K9.cell 5
      have f6 : w9.cell? ⟨w.heap.size, 6, none⟩ = some (.int .i64 x6) := K9.cell 6
      have f7 : w9.cell? ⟨w.heap.size, 7, none⟩ = some (.int .i64 x7) := K9.cell 7
      refine bodyPost_ret (v := .tuple #[encE ⟨nm, mt, tg, x1, x2, x7, x5, x6⟩, .int .i64 0, .int .i64 0]) (by simp [results, Tryz.results42, go_sem, encE, f0, f1, f2, f3, f4, f5, f6, f7]) rfl ?_
      rw [hV.out]
      exact ⟨rfl, B9⟩
end Go.Proofs.YtfgaiopkclogmaaGreatDoor
