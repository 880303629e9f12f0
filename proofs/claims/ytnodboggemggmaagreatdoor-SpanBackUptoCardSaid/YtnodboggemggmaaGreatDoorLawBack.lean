/- SpanBack: the walk of the law. -/
import Derived.Test.YtnodboggemggmaaGreatDoorBackQ
import Derived.Test.YtnodboggemggmaaGreatDoorPcF
import Derived.Test.YtnodboggemggmaaGreatDoorLawMerges
import Derived.BigQuiet
namespace Go.Proofs.YtnodboggemggmaaGreatDoor
open Go Go.RowKit
set_option maxHeartbeats 4000000

theorem totS_sum : ∀ {l : List Sp}, (∀ x, x ∈ l → x.1 < x.2) → ∀ n, l.foldl (fun n x => n + spanN x) n = n + sumS l
  | [], _, n => by simp [sumS]
  | x :: l, h, n => by
    rw [List.foldl_cons, totS_sum (l := l) (fun y hy => h y (List.mem_cons_of_mem _ hy)), sumS_cons]
    have : spanN x = x.2 - x.1 := if_pos (h x (List.mem_cons_self ..))
    rw [this]; omega
theorem sumS_take {l : List Sp} {k : Nat} (h : k < l.length) : sumS (l.take (k + 1)) = sumS (l.take k) + (l[k].2 - l[k].1) := by
  unfold sumS
  rw [List.take_succ_eq_append_getElem h, List.map_append, List.sum_append]; simp
theorem sumS_bd {l : List Sp} {N : Int} (h : ∀ x, x ∈ l → 0 ≤ x.2 - x.1 ∧ x.2 - x.1 ≤ N) : ∀ k, k ≤ l.length → 0 ≤ sumS (l.take k) ∧ sumS (l.take k) ≤ N * k
  | 0, _ => by simp [sumS]
  | k + 1, hk => by
    obtain ⟨i1, i2⟩ := sumS_bd h k (by omega)
    have hx := h l[k] (List.getElem_mem (by omega))
    rw [sumS_take (by omega), Int.natCast_succ, Int.mul_add]
    omega
def inB (m : List Sp) (a b : Int) : Bool := m.any fun y => decide (y.1 ≤ a ∧ b ≤ y.2)
theorem inB_take {m : List Sp} {k : Nat} {a b : Int} (h : k < m.length) : inB (m.take (k + 1)) a b = (inB (m.take k) a b || decide (m[k].1 ≤ a ∧ b ≤ m[k].2)) := by
  unfold inB
  rw [List.take_succ_eq_append_getElem h, List.any_append]; simp
theorem inB_of {m : List Sp} {a b : Int} (h : ∃ y, y ∈ m ∧ y.1 ≤ a ∧ b ≤ y.2) : inB m a b = true := by
  obtain ⟨y, hy, h1, h2⟩ := h
  exact List.any_eq_true.2 ⟨y, hy, decide_eq_true ⟨h1, h2⟩⟩
theorem Two2 {w : World} {a b : Int} {T : TypeId} : (w.alloc (.cells #[.int .i64 a, .int .i64 b] T)).cell? ⟨w.heap.size, 0, none⟩ = some (.int .i64 a) ∧ (w.alloc (.cells #[.int .i64 a, .int .i64 b] T)).cell? ⟨w.heap.size, 1, none⟩ = some (.int .i64 b) :=
  ⟨World.cell?_alloc_mark w #[.int .i64 a, .int .i64 b] T (0, 0) 0, World.cell?_alloc_mark w #[.int .i64 a, .int .i64 b] T (0, 0) 1⟩

set_option maxRecDepth 100000 in
theorem lawBack_any (hd s : ByteArray) (w : World) (hE : EnvP w) (hs : hd.size + s.size ≤ 1048576) :
    Calls Tryz.prog 3 #[.string hd, .string s] w fun e w' => e = .returned (.bool true) ∧ Below w.heap.size w w' := by
  have HE := Lib.hid hE; clear hE
  have hpa := fun wx hx => parse_any hd s.size wx hx (by omega) (by omega)
  have hrp := fun wx => rparse_any hd s.size wx (by omega) (by omega)
  have hPl := parseL_len hd s.size
  unfold ParseRes at hpa hrp
  by_cases h0 : parseE (L hd) s.size = 0
  case neg =>
    obtain ⟨P, hPn⟩ := name_it (parseL (L hd) s.size)
    obtain ⟨E, hEn⟩ := name_it (parseE (L hd) s.size)
    rw [hPn.out, hEn.out] at hpa hrp
    rw [hEn.out] at h0
    have HPA := Lib.hid hpa
    have HRP := Lib.hid hrp
    clear hpa hrp hPn hEn hPl
    go_enter Tryz.func3, Tryz.ntmps3
    go_wp2_with fail
    refine (HPA.out _ HE.out.env).mono ?_; rintro e w1 ⟨v, rfl, _, d1⟩
    go_wp2_with fail
    refine (HRP.out _).mono ?_; rintro e w2 ⟨u, rfl, _, b2⟩
    have d2 := d1.trans (b2.mono d1.size)
    have HE2 := Lib.hid (HE.out.next d2)
    go_wp2_with fail
    refine (awake_any _ HE2.out.env).mono ?_; rintro e w3 ⟨rfl, b3⟩
    have d3 := d2.trans (b3.mono d2.size)
    go_wp2_with fail
    go_ret
    exact ⟨rfl, d3⟩
  case pos =>
    obtain ⟨hne, hok⟩ := parse_ok h0
    rw [h0] at hpa
    clear hrp h0
    obtain ⟨P, hPn⟩ := name_it (parseL (L hd) s.size)
    rw [hPn.out] at hpa hne hok hPl
    have hs1 : 1 ≤ s.size := by
      cases P with
      | nil => exact absurd rfl hne
      | cons x r => have := of_decide_eq_true (hok x (List.mem_cons_self ..)); omega
    have hPz : P.length ≤ 1048576 := by omega
    obtain ⟨mne, mok, mwh⟩ := merge_ok hok hne
    have hnorm := (rmergeS_norm P).1
    have hme := fun wx v hx => merge_any v P wx hx hPz
    obtain ⟨M, hMn⟩ := name_it (rmergeS P)
    rw [hMn.out] at mne mok mwh hnorm hme
    obtain ⟨hM2, hMs⟩ := norm_sum hnorm (lo := 0) (hi := (s.size : Int)) (by omega) (fun y hy => by have := of_decide_eq_true (mok y hy); exact ⟨this.1, this.2.2⟩)
    have hMa : areO M (L s).length = true := by
      rw [L_length]
      exact List.all_eq_true.2 fun y hy => mok y hy
    have hMz : M.length ≤ 600000 := by omega
    have hM0 : 0 < M.length := List.length_pos_iff.2 mne
    have hsm : smallL M = true := List.all_eq_true.2 fun y hy => by have := of_decide_eq_true (mok y hy); exact decide_eq_true ⟨by omega, by omega, by omega, by omega⟩
    obtain ⟨k0, hk0, hf, ht⟩ := first_mark (L s) (by rw [L_length]; omega)
    have hbo := fun wx (hx : EnvP wx) => boundary_any s k0 wx hx (by omega) hk0 hf ht
    have hkl := markL_le k0 hk0
    have hpe := partsE_ok hk0 hf.out mne hMa
    have hpp := pieces_parts (markL k0) [97, 47, 98] (L s) M (markL_mk k0 hk0) (by decide) (by rw [L_length]; omega) hMa mne
    have hsl := partsAll_sum (b := markL k0) (k := [97, 47, 98]) (body := L s) (by rw [L_length]; omega) (by show (markL k0).length + 3 ≤ 100; omega) (l := M) (by rw [L_length]; exact mok)
    have hel : (partsEnd (markL k0)).length ≤ 100 := by unfold partsEnd; simp; omega
    have htl : (partsT (markL k0) [97, 47, 98] (L s) M).length ≤ 200000000 := by unfold partsT; rw [List.length_append]; omega
    have hpt := fun wx v (hx : EnvP wx) (hv : SpanSl wx v M) => partsK_any (bs (markL k0)) ⟨#[97, 47, 98]⟩ s v M wx hx hv (by rw [size_bs]; show (markL k0).length + 3 + s.size + 3 * M.length ≤ 4194304; omega)
    rw [L_bs, show L (⟨#[97, 47, 98]⟩ : ByteArray) = [97, 47, 98] from rfl] at hpt
    unfold partsV at hpt
    rw [hpe, if_pos rfl] at hpt
    have hpc := fun wx (hx : EnvP wx) => pieces_any (bs (markL k0)) (bs (partsT (markL k0) [97, 47, 98] (L s) M)) wx hx (by rw [size_bs]; omega) (by rw [size_bs]; omega)
    rw [L_bs, L_bs, hpp] at hpc
    unfold pcPost at hpc
    simp only [] at hpc
    have hto := fun wx v hv => total_any v M wx hv (by omega) hsm
    have hts : totS M = sumS M := by
      unfold totS
      rw [totS_sum (fun x hx => (of_decide_eq_true (mok x hx)).2.1)]; omega
    rw [hts] at hto
    obtain ⟨mk, hmk⟩ := name_it (bs (markL k0))
    obtain ⟨tx, htx⟩ := name_it (bs (partsT (markL k0) [97, 47, 98] (L s) M))
    obtain ⟨Q, hQ⟩ := name_it (M.map (pcOf [97, 47, 98] (L s)))
    have HQ := hQ
    rw [hmk.out] at hbo hpt hpc
    rw [htx.out] at hpt hpc
    rw [hQ.out] at hpc
    have hQl : Q.length = M.length := by rw [← hQ.out, List.length_map]
    have HQL := Lib.hid hQl
    have HPA := Lib.hid hpa
    have HME := Lib.hid hme
    have HBO := Lib.hid hbo
    have HPT := Lib.hid hpt
    have HPC := Lib.hid hpc
    have HTO := Lib.hid hto
    have HMO := Lib.hid mok
    have HMW := Lib.hid mwh
    clear hpa hme hbo hpt hpc hto mok mwh hpp hpe hsl hel htl hkl hts hsm hMa hnorm hf ht hmk htx hQ hMn hPn hok hne mne hQl hPl
    go_enter Tryz.func3, Tryz.ntmps3
    go_wp2_with fail
    refine (HPA.out _ HE.out.env).mono ?_; rintro e w1 ⟨v, rfl, r1, d1⟩
    obtain ⟨va, vc, hv⟩ := spanRow_slice r1
    subst hv
    have P1 := Lib.hid (spanSl_of_row r1)
    clear r1 HPA
    go_wp2_with fail
    refine (HME.out _ _ P1.out).mono ?_; rintro e w2 ⟨m, rfl, r2, b2⟩
    obtain ⟨ma, mc, hm⟩ := spanRow_slice r2
    subst hm
    have M2 := Lib.hid (spanSl_of_row r2)
    have P2 := Lib.hid (spanSl_keep P1.out b2)
    have d2 := d1.trans (b2.mono d1.size)
    have HE2 := Lib.hid (HE.out.next d2)
    clear r2 b2 P1 d1 HME
    go_wp2_with fail
    refine (HBO.out _ HE2.out).mono ?_; rintro e w3 ⟨rfl, b3⟩
    have M3 := Lib.hid (spanSl_keep M2.out b3)
    have P3 := Lib.hid (spanSl_keep P2.out b3)
    have d3 := d2.trans (b3.mono d2.size)
    have HE3 := Lib.hid (HE.out.next d3)
    clear b3 P2 M2 d2 HE2 HBO
    go_wp2_with fail
    refine (HPT.out _ _ HE3.out M3.out).mono ?_; rintro e w4 ⟨rfl, b4⟩
    have M4 := Lib.hid (spanSl_keep M3.out b4)
    have P4 := Lib.hid (spanSl_keep P3.out b4)
    have d4 := d3.trans (b4.mono d3.size)
    have HE4 := Lib.hid (HE.out.next d4)
    clear b4 P3 M3 d3 HE3 HPT
    go_wp2_with fail
    refine (HPC.out _ HE4.out).mono ?_; rintro e w5 ⟨u, rfl, r5, b5⟩
    obtain ⟨ua, uc, hu⟩ := pcRow_slice r5
    subst hu
    have Q5 := Lib.hid (pcSl_of_row r5)
    have M5 := Lib.hid (spanSl_keep M4.out b5)
    have P5 := Lib.hid (spanSl_keep P4.out b5)
    have d5 := d4.trans (b5.mono d4.size)
    clear r5 b5 P4 M4 d4 HE4 HPC
    have D5 := Lib.hid d5
    clear d5
    rw [HQL.out]
    have hM00 : ((M.length : Int) == 0) = false := by
      rw [beq_eq_false_iff_ne]
      omega
    go_wp2_with fail
    all_goals (try (exfalso; omega))
    clear hM00
    obtain ⟨a1, c1, e1, hqc⟩ := Q5.out
    rw [HQL.out] at e1
    injection e1 with e1 _ e2
    subst e1 e2
    have HQC := Lib.hid hqc
    obtain ⟨a1, c1, e1, hmc⟩ := M5.out
    injection e1 with e1 _ e2
    subst e1 e2
    have HMC := Lib.hid hmc
    obtain ⟨a1, c1, e1, hpc⟩ := P5.out
    injection e1 with e1 _ e2
    subst e1 e2
    have HPC := Lib.hid hpc
    have HBD := Lib.hid (sumS_bd (l := M) (N := 1048576) (fun x hx => by have := of_decide_eq_true (HMO.out x hx); omega))
    clear hqc hmc hpc Q5 P5
    go_loopw [16, 17, 18] (fun n i _ wr => ∃ k : Nat, k ≤ M.length ∧ i = .int .i64 k ∧ n = .int .i64 (sumS (M.take k)) ∧ Hid (Below w5.heap.size w5 wr)) (fun _ i _ _ => M.length - (intOf i).toNat)
    case atStart => exact ⟨0, Nat.zero_le _, rfl, rfl, Below.refl _ _⟩
    case round =>
      obtain ⟨k, hk, rfl, rfl, hbr⟩ := hrel
      obtain ⟨wq, hwq⟩ : ∃ wq, wq = wr := ⟨wr, rfl⟩
      subst hwq
      by_cases hlt : k < M.length
      · have hlq : k < Q.length := by rw [HQL.out]; exact hlt
        obtain ⟨gp, op, rfl, hgp, c0, c1, c2, c3, c4⟩ := HQC.out k hlq
        obtain ⟨gm, om, rfl, hgm, m0, m1⟩ := HMC.out k hlt
        have hqk : Q[k] = pcOf [97, 47, 98] (L s) M[k] := by
          have h1 : Q[k]? = (M.map (pcOf [97, 47, 98] (L s)))[k]? := by rw [HQ.out]
          rw [List.getElem?_map, List.getElem?_eq_getElem hlq, List.getElem?_eq_getElem hlt] at h1
          exact Option.some.inj h1
        have hmo := of_decide_eq_true (HMO.out M[k] (List.getElem_mem hlt))
        have hst := sumS_take hlt
        have hbd := HBD.out k hk
        rw [hqk] at c0 c1 c2 c3 c4
        unfold pcOf at c0 c1 c2 c3 c4
        simp only [] at c0 c1 c2 c3 c4
        rw [L_length] at c3
        rw [← extract_bs] at c4
        rw [show bs [97, 47, 98] = ⟨#[97, 47, 98]⟩ from rfl] at c0
        obtain ⟨p1, hp1⟩ := name_it M[k].1
        obtain ⟨p2, hp2⟩ := name_it M[k].2
        rw [hp1.out] at c1 c4 m0 hmo hst
        rw [hp2.out] at c2 c4 m1 hmo hst
        obtain ⟨a, rfl⟩ : ∃ a : Nat, p1 = a := ⟨p1.toNat, by omega⟩
        obtain ⟨b, rfl⟩ : ∃ b : Nat, p2 = b := ⟨p2.toNat, by omega⟩
        rw [Int.toNat_natCast, Int.toNat_natCast] at c4
        obtain ⟨S, hS⟩ := name_it (sumS (M.take k))
        rw [hS.out] at hst hbd ⊢
        have HST := Lib.hid hst
        rw [← hbr.out.cell (p := ⟨gp, _, none⟩) hgp] at c0 c1 c2 c3 c4
        rw [← hbr.out.cell (p := ⟨gm, _, none⟩) hgm] at m0 m1
        have hgp2 : gp < wq.heap.size := Nat.lt_of_lt_of_le hgp hbr.out.size
        have hgm2 : gm < wq.heap.size := Nat.lt_of_lt_of_le hgm hbr.out.size
        clear hst hqk hp1 hp2 hS
        obtain ⟨bd, hbdy⟩ := name_it (s.extract a b)
        have hbz : bd.size = b - a := by rw [← hbdy.out, ByteArray.size_extract]; omega
        rw [hbdy.out] at c4
        have X0 := Lib.hid (XBox.new wq a b 38)
        have BX := Lib.hid ((Below.refl wq.heap.size wq).alloc (Nat.le_refl _) (.cells #[.int .i64 a, .int .i64 b] 38))
        have DX := Lib.hid (hbr.out.alloc hbr.out.size (.cells #[.int .i64 a, .int .i64 b] 38))
        go_wp2_with fail
        rw [← BX.out.cell (p := ⟨gp, _, none⟩) hgp2] at c0 c1 c2 c3 c4
        rw [← BX.out.cell (p := ⟨gm, _, none⟩) hgm2] at m0 m1
        have x0 := X0.out.c0
        have x1 := X0.out.c1
        obtain ⟨gx, hgx⟩ := name_it wq.heap.size
        obtain ⟨wx, hwx⟩ := name_it (wq.alloc (.cells #[.int .i64 a, .int .i64 b] 38))
        rw [hwx.out] at c0 c1 c2 c3 c4 m0 m1 x0 x1 DX
        rw [hgx.out] at x0 x1
        rw [hwx.out, hgx.out]
        clear X0 BX hwx hgx hgp2 hgm2 hgp hgm
        have e1 : ((a : Int) == (a : Int)) = true := beq_self_eq_true _
        have e2 : ((b : Int) == (b : Int)) = true := beq_self_eq_true _
        have e3 : decide ((a : Int) < 0) = false := decide_eq_false (by omega)
        have e4 : decide ((s.size : Int) < (b : Int)) = false := decide_eq_false (by omega)
        have e5 : decide ((b : Int) ≤ (a : Int)) = false := decide_eq_false (by omega)
        have e4n : decide (s.size < b) = false := decide_eq_false (by omega)
        have e4m : decide ((b : Int) > (s.size : Int)) = false := decide_eq_false (by omega)
        have e5n : decide (b ≤ a) = false := decide_eq_false (by omega)
        have e5m : decide ((a : Int) ≥ (b : Int)) = false := decide_eq_false (by omega)
        have e6 : (bd.toList == bd.toList) = true := beq_self_eq_true _
        have e7 : ((s.size : Int) == (s.size : Int)) = true := beq_self_eq_true _
        have q0 : (0 : Int) ≤ (a : Int) := by omega
        have q1 : (a : Int) ≤ (b : Int) := by omega
        have q2 : (b : Int) ≤ (s.size : Int) := by omega
        have q3 : (0 : Int) ≤ (k : Int) := by omega
        have q4 : (k : Int) < (M.length : Int) := by omega
        have hex : s.extract a b = bd := hbdy.out
        go_quiet (fail)
        clear e1 e2 e3 e4 e4n e4m e5 e5n e5m e6 e7
        go_wp2_with fail
        all_goals (try (exfalso; omega))
        go_roundw
        case rel =>
          refine ⟨k + 1, by omega, by go_num, ?_, below_drewN DX.out _⟩
          rw [HST.out]
          congr 1
          omega
        case measure => simp [intOf]; omega
      · obtain rfl : k = M.length := by omega
        rw [List.take_length]
        have Dr := Lib.hid (D5.out.trans (hbr.out.mono D5.out.size))
        have HEr := Lib.hid (HE.out.next Dr.out)
        clear HBD
        go_wp2_with fail
        all_goals (try (exfalso; omega))
        go_loopw [19, 20, 21] (fun i _ _ wr => ∃ k : Nat, k ≤ P.length ∧ i = .int .i64 k ∧ Hid (Below w5.heap.size w5 wr)) (fun i _ _ _ => P.length - (intOf i).toNat)
        case atStart => exact ⟨0, Nat.zero_le _, rfl, hbr⟩
        clear hbr Dr HEr
        case round =>
          obtain ⟨k, hk, rfl, hbr⟩ := hrel
          obtain ⟨wq, hwq⟩ : ∃ wq, wq = wr := ⟨wr, rfl⟩
          subst hwq
          by_cases hlt : k < P.length
          · obtain ⟨gl, ol, rfl, hgl, l0, l1⟩ := HPC.out k hlt
            have hin := inB_of (HMW.out P[k] (List.getElem_mem hlt))
            obtain ⟨a, ha⟩ := name_it P[k].1
            obtain ⟨b, hb⟩ := name_it P[k].2
            rw [ha.out] at l0 hin
            rw [hb.out] at l1 hin
            have HIN := Lib.hid hin
            clear hin ha hb
            go_wp2_with fail
            go_loopw [20, 21] (fun f j wr => ∃ q : Nat, q ≤ M.length ∧ j = .int .i64 q ∧ f = .bool (inB (M.take q) a b) ∧ Hid (Below w5.heap.size w5 wr)) (fun _ j _ => M.length - (intOf j).toNat)
            case atStart => exact ⟨0, Nat.zero_le _, rfl, rfl, hbr⟩
            clear hbr
            case round =>
              obtain ⟨q, hq, rfl, rfl, hbr⟩ := hrel
              obtain ⟨wp, hwp⟩ : ∃ wp, wp = wr := ⟨wr, rfl⟩
              subst hwp
              by_cases hlt2 : q < M.length
              · obtain ⟨gm, om, rfl, hgm, m0, m1⟩ := HMC.out q hlt2
                have hst := inB_take (a := a) (b := b) hlt2
                obtain ⟨p1, hp1⟩ := name_it M[q].1
                obtain ⟨p2, hp2⟩ := name_it M[q].2
                rw [hp1.out] at m0 hst
                rw [hp2.out] at m1 hst
                rw [← hbr.out.cell (p := ⟨gm, _, none⟩) hgm] at m0 m1
                rw [← hbr.out.cell (p := ⟨gl, _, none⟩) hgl] at l0 l1
                obtain ⟨f, hf⟩ := name_it (inB (M.take q) a b)
                rw [hf.out] at hst ⊢
                have q1 : (0 : Int) ≤ (k : Int) := by omega
                have q2 : (k : Int) < (P.length : Int) := by omega
                have q3 : (0 : Int) ≤ (q : Int) := by omega
                have q4 : (q : Int) < (M.length : Int) := by omega
                cases f with
                | true =>
                  have HST := Lib.hid hst
                  clear hst
                  go_wp2_with fail
                  go_quiet (fail)
                  go_wp2_with fail
                  go_roundw
                  case rel => exact ⟨q + 1, by omega, by go_num, by rw [HST.out]; rfl, below_drewN hbr.out _⟩
                  case measure => simp [intOf]; omega
                | false =>
                  by_cases h1 : p1 ≤ a
                  · have d1 : decide (p1 ≤ a) = true := decide_eq_true h1
                    by_cases h2 : b ≤ p2
                    · rw [decide_eq_true ⟨h1, h2⟩] at hst
                      have d2 : decide (b ≤ p2) = true := decide_eq_true h2
                      have HST := Lib.hid hst
                      clear hst
                      go_wp2_with fail
                      go_quiet (fail)
                      go_wp2_with fail
                      go_roundw
                      case rel => exact ⟨q + 1, by omega, by go_num, by rw [HST.out]; rfl, below_drewN hbr.out _⟩
                      case measure => simp [intOf]; omega
                    · rw [decide_eq_false (fun h => h2 h.2)] at hst
                      have d2 : decide (b ≤ p2) = false := decide_eq_false h2
                      have HST := Lib.hid hst
                      clear hst
                      go_wp2_with fail
                      go_quiet (fail)
                      go_wp2_with fail
                      go_roundw
                      case rel => exact ⟨q + 1, by omega, by go_num, by rw [HST.out]; rfl, below_drewN hbr.out _⟩
                      case measure => simp [intOf]; omega
                  · rw [decide_eq_false (fun h => h1 h.1)] at hst
                    have d1 : decide (p1 ≤ a) = false := decide_eq_false h1
                    have HST := Lib.hid hst
                    clear hst
                    go_wp2_with fail
                    go_quiet (fail)
                    go_wp2_with fail
                    go_roundw
                    case rel => exact ⟨q + 1, by omega, by go_num, by rw [HST.out]; rfl, below_drewN hbr.out _⟩
                    case measure => simp [intOf]; omega
              · obtain rfl : q = M.length := by omega
                rw [List.take_length, HIN.out]
                go_wp2_with fail
                go_roundw
                case rel => exact ⟨k + 1, by omega, by go_num, hbr⟩
                case measure => simp [intOf]; omega
          · obtain rfl : k = P.length := by omega
            have Dr := Lib.hid (D5.out.trans (hbr.out.mono D5.out.size))
            have HEr := Lib.hid (HE.out.next Dr.out)
            have Mr := Lib.hid (spanSl_keep M5.out hbr.out)
            go_wp2_with fail
            refine (awake_any _ HEr.out.env).mono ?_; rintro e w6 ⟨rfl, b6⟩
            have M6 := Lib.hid (spanSl_keep Mr.out b6)
            have d6 := Dr.out.trans (b6.mono Dr.out.size)
            clear b6 Mr
            go_wp2_with fail
            refine (HTO.out _ _ M6.out).mono ?_; rintro e w7 ⟨rfl, b7⟩
            have d7 := d6.trans (b7.mono d6.size)
            have e1 : (sumS M == sumS M) = true := beq_self_eq_true _
            go_wp2_with fail
            go_ret
            exact ⟨rfl, d7⟩
end Go.Proofs.YtnodboggemggmaaGreatDoor
