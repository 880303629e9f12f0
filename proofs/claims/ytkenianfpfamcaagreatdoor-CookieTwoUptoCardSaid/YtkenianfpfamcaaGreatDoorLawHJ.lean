/- CookieTwo: the walk of the law. -/
import Derived.Test.YtkenianfpfamcaaGreatDoorTwoHJ
import Derived.Test.YtkenianfpfamcaaGreatDoorTwoIJ
import Derived.Test.YtkenianfpfamcaaGreatDoorDe
import Derived.Test.YtkenianfpfamcaaGreatDoorMo
namespace Go.Proofs.YtkenianfpfamcaaGreatDoor
open Go Go.RowKit
set_option maxHeartbeats 16000000

theorem begun_v (m : Int) (w : World) : Calls Tryz.prog 24 #[.int .i64 m] w fun e w' => (∃ (jv : Value) (jb mb most : Nat), e = .returned (.tuple #[jv, .agg #[.int .i64 most, .slice none 0 0], .bool true]) ∧ Jv w' jv jb mb most 0 [] ∧ (most ≠ 0 → w.heap.size ≤ jb ∧ w.heap.size ≤ mb)) ∧ Below w.heap.size w w' := by
  by_cases hm : 1 ≤ m ∧ m ≤ 3000
  · obtain ⟨k, rfl⟩ : ∃ k : Nat, m = k := ⟨m.toNat, by omega⟩
    refine (begun_ok k (by omega) (by omega) w).mono ?_
    rintro e w' ⟨⟨jb, mb, rfl, hj, h1, h2⟩, hb⟩
    exact ⟨⟨ptrV jb, jb, mb, k, rfl, Or.inr ⟨by omega, rfl, hj, Nat.zero_le _⟩, fun _ => ⟨h1, h2⟩⟩, hb⟩
  · refine (begun_bad m hm w).mono ?_
    rintro e w' ⟨rfl, hb⟩
    exact ⟨⟨.pointer none, 0, 0, 0, rfl, Or.inl ⟨rfl, rfl, rfl⟩, fun h => absurd rfl h⟩, hb⟩
theorem jv_lt {w : World} {jv : Value} {jb mb most n : Nat} {l : List It} (h : Jv w jv jb mb most n l) (h0 : most ≠ 0) : jb < w.heap.size ∧ mb < w.heap.size := by
  rcases h with hj | ⟨_, _, h3, _⟩
  · exact absurd hj.1 h0
  · exact ⟨h3.jar.lt, by obtain ⟨D, h, _⟩ := h3.map; exact h.lt⟩
/-- both jars have been begun -/
theorem T2.first {w w2 w3 w4 w5 : World} {v1 v2 : Value} {j1 m1 M1 j2 m2 M2 : Nat} (B2 : Below w.heap.size w w2) (hJ1 : Jv w2 v1 j1 m1 M1 0 []) (hl1 : M1 ≠ 0 → w.heap.size ≤ j1 ∧ w.heap.size ≤ m1) (P1 : Below w2.heap.size w2 w3) (K1 : CellsAt w3 w2.heap.size [.int .i64 M1, .slice none 0 0])
    (B4 : Below w3.heap.size w3 w4) (hJ2 : Jv w4 v2 j2 m2 M2 0 []) (hl2 : M2 ≠ 0 → w3.heap.size ≤ j2 ∧ w3.heap.size ≤ m2) (P2 : Below w4.heap.size w4 w5) (K2 : CellsAt w5 w4.heap.size [.int .i64 M2, .slice none 0 0]) :
    T2 w w2.heap.size v1 j1 m1 M1 0 none 0 [] w4.heap.size v2 j2 m2 M2 0 none 0 [] w5 := by
  have s2 := B2.size
  have s3 := K1.lt
  have s4 := B4.size
  have P14 := (P1.trans (B4.mono P1.size)).trans (P2.mono (Nat.le_trans P1.size s4))
  have g1 := fun h0 : M1 ≠ 0 => jv_lt hJ1 h0
  have g2 := fun h0 : M2 ≠ 0 => jv_lt hJ2 h0
  refine ⟨⟨(K1.next B4).next P2, hJ1.next P14, ⟨Or.inl rfl⟩, Nat.le_refl _, s2, hl1, by omega, fun h0 => ?_, fun h0 => absurd rfl h0⟩,
    ⟨K2, hJ2.next P2, ⟨Or.inl rfl⟩, Nat.le_refl _, by omega, fun h0 => by have := hl2 h0; omega, by omega, fun h0 => ?_, fun h0 => absurd rfl h0⟩, fun h1 h2 => ?_, B2.trans (P14.mono s2)⟩
  · have := g1 h0; omega
  · have := g2 h0; have := hl2 h0; omega
  · have := g1 h1; have := hl2 h2; omega
set_option maxRecDepth 100000 in
theorem lawTwo_any (a b : Int) (p : Option Addr) (cap : Nat) (ops : List OpC) (w : World) (hE : EnvK w) (hO : OpL w p ops) (hf : ∀ o ∈ ops, FitO o) (hl : ops.length ≤ 65536) :
    Calls Tryz.prog 8 #[.int .i64 a, .int .i64 b, .slice p ops.length cap] w fun e w' => e = .returned (.bool true) ∧ Below w.heap.size w w' := by
  have HA := Lib.hid (awake_any w hE)
  have HO := Lib.hid hO
  have HF := Lib.hid hf
  have HE := Lib.hid hE
  clear hO hf hE
  go_enter Tryz.func8, Tryz.ntmps8
  go_wp2_with fail
  refine HA.out.mono ?_; rintro e w1 ⟨rfl, hb1⟩
  have B1 := Lib.hid hb1
  clear hb1 HA
  go_wp2_with fail
  refine (begun_v a w1).mono ?_; rintro e w2 ⟨⟨v1, j1, m1, M1, rfl, hJ1, hl1⟩, hb2⟩
  have J1 := Lib.hid hJ1
  have L1 : Hid (M1 ≠ 0 → w.heap.size ≤ j1 ∧ w.heap.size ≤ m1) := fun h0 => by have := hl1 h0; have := B1.out.size; omega
  have B2 := Lib.hid (B1.out.trans (hb2.mono B1.out.size))
  clear hJ1 hl1 hb2 B1
  have K1 := Lib.hid (CellsAt.first w2 [.int .i64 M1, .slice none 0 0] tRJ)
  have PK1 := Lib.hid (below_put2 (w := w2) (cs := #[.int .i64 M1, .slice none 0 0]) (T := tRJ))
  go_upto_region 4 with fail
  generalize w2.alloc _ = w3 at K1 PK1 ⊢
  obtain ⟨b1, hb1⟩ : ∃ b1, b1 = w2.heap.size := ⟨_, rfl⟩
  have HB1 := Lib.hid hb1
  rw [← HB1.out]
  clear hb1
  go_wp2_with fail
  refine (begun_v b w3).mono ?_; rintro e w4 ⟨⟨v2, j2, m2, M2, rfl, hJ2, hl2⟩, hb4⟩
  have J2 := Lib.hid hJ2
  have L2 := Lib.hid hl2
  have B4 := Lib.hid hb4
  clear hJ2 hl2 hb4
  have K2 := Lib.hid (CellsAt.first w4 [.int .i64 M2, .slice none 0 0] tRJ)
  have PK2 := Lib.hid (below_put2 (w := w4) (cs := #[.int .i64 M2, .slice none 0 0]) (T := tRJ))
  go_upto_region 5 with fail
  generalize w4.alloc _ = w5 at K2 PK2 ⊢
  have T0 := Lib.hid (T2.first B2.out J1.out L1.out PK1.out K1.out B4.out J2.out L2.out PK2.out K2.out)
  rw [← HB1.out] at T0
  clear HB1
  obtain ⟨b2, hb2⟩ := name_it w4.heap.size
  rw [hb2.out] at T0 ⊢
  clear B2 J1 L1 PK1 K1 B4 J2 L2 PK2 K2 hb2
  go_wp2_with fail
  go_loopw [37] (fun i wr => ∃ (k n1 : Nat) (q1 : Option Addr) (c1 : Nat) (l1 : List It) (n2 : Nat) (q2 : Option Addr) (c2 : Nat) (l2 : List It), k ≤ ops.length ∧ i = .int .i64 k ∧ n1 ≤ k ∧ n2 ≤ k ∧ Hid (T2 w b1 v1 j1 m1 M1 n1 q1 c1 l1 b2 v2 j2 m2 M2 n2 q2 c2 l2 wr)) (fun i _ => ops.length - (intOf i).toNat)
  case atStart => exact ⟨0, 0, none, 0, [], 0, none, 0, [], Nat.zero_le _, rfl, Nat.le_refl _, Nat.le_refl _, T0⟩
  clear T0
  case round =>
  obtain ⟨k, n1, q1, c1, l1, n2, q2, c2, l2, hk, rfl, hn1, hn2, T⟩ := hrel
  obtain ⟨wq, hwq⟩ : ∃ wq, wq = wr := ⟨wr, rfl⟩
  subst hwq
  by_cases hlt : k < ops.length
  rotate_left
  · obtain rfl : k = ops.length := by omega
    have D9 := Lib.hid T.out.bl
    clear T HO HF HE
    go_wp2_with fail
    all_goals (try (exfalso; omega))
    go_ret
    exact ⟨rfl, D9.out⟩
  · obtain ⟨g, og, rfl, hg, hc⟩ := (HO.out.keeps (S := fun i => w.heap.size ≤ i) ⟨T.out.bl.os, T.out.bl.tape, T.out.bl.output, T.out.bl.size, fun i hi hn => T.out.bl.block i (by omega)⟩ (fun g off h => by
      rcases HO.out.mem with h0 | ⟨g', off', h1, h2, _⟩
      · rw [h0] at hlt; cases hlt
      · rw [h1] at h; injection h with h; injection h with h _; omega)).get k hlt
    have FO := HF.out ops[k] (List.getElem_mem hlt)
    obtain ⟨o, ho⟩ := name_it ops[k]
    rw [ho.out] at hc FO
    clear ho
    have FO := Lib.hid FO
    obtain ⟨kd, ⟨nm, v, pp, d, ma, hm, ex, he, sc, ht, sm⟩, host, path, sec, now⟩ := o
    have z0 : wq.cell? ⟨g, og + k * 16, none⟩ = some (.int .i64 kd) := hc 0 _ (by decide) rfl
    have z1 : wq.cell? ⟨g, og + k * 16 + 1, none⟩ = some (.string (bs nm)) := hc 1 _ (by decide) rfl
    have z2 : wq.cell? ⟨g, og + k * 16 + 2, none⟩ = some (.string (bs v)) := hc 2 _ (by decide) rfl
    have z3 : wq.cell? ⟨g, og + k * 16 + 3, none⟩ = some (.string (bs pp)) := hc 3 _ (by decide) rfl
    have z4 : wq.cell? ⟨g, og + k * 16 + 4, none⟩ = some (.string (bs d)) := hc 4 _ (by decide) rfl
    have z5 : wq.cell? ⟨g, og + k * 16 + 5, none⟩ = some (.int .i64 ma) := hc 5 _ (by decide) rfl
    have z6 : wq.cell? ⟨g, og + k * 16 + 6, none⟩ = some (.bool hm) := hc 6 _ (by decide) rfl
    have z7 : wq.cell? ⟨g, og + k * 16 + 7, none⟩ = some (.int .i64 ex) := hc 7 _ (by decide) rfl
    have z8 : wq.cell? ⟨g, og + k * 16 + 8, none⟩ = some (.bool he) := hc 8 _ (by decide) rfl
    have z9 : wq.cell? ⟨g, og + k * 16 + 9, none⟩ = some (.bool sc) := hc 9 _ (by decide) rfl
    have z10 : wq.cell? ⟨g, og + k * 16 + 10, none⟩ = some (.bool ht) := hc 10 _ (by decide) rfl
    have z11 : wq.cell? ⟨g, og + k * 16 + 11, none⟩ = some (.int .i64 sm) := hc 11 _ (by decide) rfl
    have z12 : wq.cell? ⟨g, og + k * 16 + 12, none⟩ = some (.string (bs host)) := hc 12 _ (by decide) rfl
    have z13 : wq.cell? ⟨g, og + k * 16 + 13, none⟩ = some (.string (bs path)) := hc 13 _ (by decide) rfl
    have z14 : wq.cell? ⟨g, og + k * 16 + 14, none⟩ = some (.bool sec) := hc 14 _ (by decide) rfl
    have z15 : wq.cell? ⟨g, og + k * 16 + 15, none⟩ = some (.int .i64 now) := hc 15 _ (by decide) rfl
    clear hc
    have KO := Lib.hid (CellsAt.first wq [.int .i64 kd, .string (bs nm), .string (bs v), .string (bs pp), .string (bs d), .int .i64 ma, .bool hm, .int .i64 ex, .bool he, .bool sc, .bool ht, .int .i64 sm, .string (bs host), .string (bs path), .bool sec, .int .i64 now] 61)
    have PKO := Lib.hid (below_put2 (w := wq) (cs := #[.int .i64 kd, .string (bs nm), .string (bs v), .string (bs pp), .string (bs d), .int .i64 ma, .bool hm, .int .i64 ex, .bool he, .bool sc, .bool ht, .int .i64 sm, .string (bs host), .string (bs path), .bool sec, .int .i64 now]) (T := 61))
    go_upto_region 10 with fail
    all_goals (try (exfalso; omega))
    clear z0 z1 z2 z3 z4 z5 z6 z7 z8 z9 z10 z11 z12 z13 z14 z15
    have T1 := Lib.hid (T.out.next PKO.out)
    clear T PKO
    obtain ⟨ob, hob⟩ := name_it wq.heap.size
    rw [hob.out] at KO ⊢
    clear hob
    generalize wq.alloc _ = wb at KO T1 ⊢
    have z0 : wb.cell? ⟨ob, 0, none⟩ = some (.int .i64 kd) := KO.out.at 0 _ rfl
    have z1 : wb.cell? ⟨ob, 1, none⟩ = some (.string (bs nm)) := KO.out.at 1 _ rfl
    have z2 : wb.cell? ⟨ob, 2, none⟩ = some (.string (bs v)) := KO.out.at 2 _ rfl
    have z3 : wb.cell? ⟨ob, 3, none⟩ = some (.string (bs pp)) := KO.out.at 3 _ rfl
    have z4 : wb.cell? ⟨ob, 4, none⟩ = some (.string (bs d)) := KO.out.at 4 _ rfl
    have z5 : wb.cell? ⟨ob, 5, none⟩ = some (.int .i64 ma) := KO.out.at 5 _ rfl
    have z6 : wb.cell? ⟨ob, 6, none⟩ = some (.bool hm) := KO.out.at 6 _ rfl
    have z7 : wb.cell? ⟨ob, 7, none⟩ = some (.int .i64 ex) := KO.out.at 7 _ rfl
    have z8 : wb.cell? ⟨ob, 8, none⟩ = some (.bool he) := KO.out.at 8 _ rfl
    have z9 : wb.cell? ⟨ob, 9, none⟩ = some (.bool sc) := KO.out.at 9 _ rfl
    have z10 : wb.cell? ⟨ob, 10, none⟩ = some (.bool ht) := KO.out.at 10 _ rfl
    have z11 : wb.cell? ⟨ob, 11, none⟩ = some (.int .i64 sm) := KO.out.at 11 _ rfl
    have z12 : wb.cell? ⟨ob, 12, none⟩ = some (.string (bs host)) := KO.out.at 12 _ rfl
    have z13 : wb.cell? ⟨ob, 13, none⟩ = some (.string (bs path)) := KO.out.at 13 _ rfl
    have z14 : wb.cell? ⟨ob, 14, none⟩ = some (.bool sec) := KO.out.at 14 _ rfl
    have z15 : wb.cell? ⟨ob, 15, none⟩ = some (.int .i64 now) := KO.out.at 15 _ rfl
    have ev := Int.tmod_eq_emod_of_nonneg (a := (k : Int)) (b := 2) (by omega)
    rcases Nat.mod_two_eq_zero_or_one k with h2 | h2
    · have e2 : Int.tmod (k : Int) 2 = 0 := by omega
      clear ev h2
      obtain ⟨nl, hnl⟩ := name_it (l1.map It.k).length
      have ST : Hid (Calls Tryz.prog 32 #[v1, .agg #[.int .i64 M1, .slice q1 nl c1], .agg #[.int .i64 kd, .string (bs nm), .string (bs v), .string (bs pp), .string (bs d), .int .i64 ma, .bool hm, .int .i64 ex, .bool he, .bool sc, .bool ht, .int .i64 sm, .string (bs host), .string (bs path), .bool sec, .int .i64 now]] wb fun e w' => ∃ q' cap' l' n', e = .returned (.tuple #[.agg #[.int .i64 M1, .slice q' (l'.map It.k).length cap'], .bool true]) ∧ StepOut wb v1 j1 m1 M1 n1 (l1.map It.k) q1 q' cap' l' n' w') := by
        rw [← hnl.out]
        exact step_any wb v1 j1 m1 M1 n1 q1 c1 l1 (⟨kd, ⟨nm, v, pp, d, ma, hm, ex, he, sc, ht, sm⟩, host, path, sec, now⟩ : OpC) T1.out.a.j T1.out.a.d T1.out.a.cp (HE.out.below T1.out.bl HE.out.t.n) FO.out (by omega) (fun h0 => by have := T1.out.a.lj h0; have := HE.out.t.n; omega) (fun hx g off e he => by have := (T1.out.a.qo hx g off e).2.2.1 he.1; omega)
      have x0 := T1.out.a.x.at 0 _ rfl
      have x1 : wb.cell? ⟨b1, 1, none⟩ = some (.slice q1 nl c1) := by rw [← hnl.out]; exact T1.out.a.x.at 1 _ rfl
      clear hnl
      go_wp2_with fail
      all_goals (try (exfalso; omega))
      refine ST.out.mono ?_; rintro e wc ⟨q0, c0, l0, n0, rfl, hS⟩
      have N := T1.out.step hS
      have T3 := Lib.hid N.1
      have NN := Lib.hid N.2.1
      have XX := Lib.hid N.2.2
      unfold putAll putAll putAll at T3
      simp only [Nat.zero_add, List.length_map] at T3
      clear N hS ST x0 x1 T1 KO
      have x0 := XX.out.at 0 _ rfl
      have x1 := XX.out.at 1 _ rfl
      have y0 := XX.out.free 0
      have y1 := XX.out.free 1
      clear XX
      go_wp2_with fail
      go_roundw
      case rel => exact ⟨k + 1, n0, q0, c0, l0, n2, q2, c2, l2, by omega, by go_num, by have := NN.out; omega, by omega, T3⟩
      case measure => simp [intOf]; omega
    · have e2 : Int.tmod (k : Int) 2 = 1 := by omega
      clear ev h2
      obtain ⟨nl, hnl⟩ := name_it (l2.map It.k).length
      have ST : Hid (Calls Tryz.prog 32 #[v2, .agg #[.int .i64 M2, .slice q2 nl c2], .agg #[.int .i64 kd, .string (bs nm), .string (bs v), .string (bs pp), .string (bs d), .int .i64 ma, .bool hm, .int .i64 ex, .bool he, .bool sc, .bool ht, .int .i64 sm, .string (bs host), .string (bs path), .bool sec, .int .i64 now]] wb fun e w' => ∃ q' cap' l' n', e = .returned (.tuple #[.agg #[.int .i64 M2, .slice q' (l'.map It.k).length cap'], .bool true]) ∧ StepOut wb v2 j2 m2 M2 n2 (l2.map It.k) q2 q' cap' l' n' w') := by
        rw [← hnl.out]
        exact step_any wb v2 j2 m2 M2 n2 q2 c2 l2 (⟨kd, ⟨nm, v, pp, d, ma, hm, ex, he, sc, ht, sm⟩, host, path, sec, now⟩ : OpC) T1.out.swap.a.j T1.out.swap.a.d T1.out.swap.a.cp (HE.out.below T1.out.bl HE.out.t.n) FO.out (by omega) (fun h0 => by have := T1.out.swap.a.lj h0; have := HE.out.t.n; omega) (fun hx g off e he => by have := (T1.out.swap.a.qo hx g off e).2.2.1 he.1; omega)
      have x0 := T1.out.swap.a.x.at 0 _ rfl
      have x1 : wb.cell? ⟨b2, 1, none⟩ = some (.slice q2 nl c2) := by rw [← hnl.out]; exact T1.out.swap.a.x.at 1 _ rfl
      clear hnl
      go_wp2_with fail
      all_goals (try (exfalso; omega))
      refine ST.out.mono ?_; rintro e wc ⟨q0, c0, l0, n0, rfl, hS⟩
      have N := T1.out.swap.step hS
      have T3 := Lib.hid N.1.swap
      have NN := Lib.hid N.2.1
      have XX := Lib.hid N.2.2
      unfold putAll putAll putAll at T3
      simp only [Nat.zero_add, List.length_map] at T3
      clear N hS ST x0 x1 T1 KO
      have x0 := XX.out.at 0 _ rfl
      have x1 := XX.out.at 1 _ rfl
      have y0 := XX.out.free 0
      have y1 := XX.out.free 1
      clear XX
      go_wp2_with fail
      go_roundw
      case rel => exact ⟨k + 1, n1, q1, c1, l1, n0, q0, c0, l0, by omega, by go_num, by omega, by have := NN.out; omega, T3⟩
      case measure => simp [intOf]; omega
end Go.Proofs.YtkenianfpfamcaaGreatDoor
