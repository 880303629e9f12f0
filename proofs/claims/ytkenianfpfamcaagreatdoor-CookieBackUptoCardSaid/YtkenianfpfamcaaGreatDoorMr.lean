/- Contracts of the document's cookie: ages. Contracts of the document's cookie: what is wrong with one that is set. -/
import Derived.Test.YtkenianfpfamcaaGreatDoorMg
import Derived.Deep.DeepCutAuto
import Derived.Deep.CutBlock
import Derived.Test.YtkenianfpfamcaaGreatDoorMp
import Derived.Test.YtkenianfpfamcaaGreatDoorCookWJ
namespace Go.Proofs.YtkenianfpfamcaaGreatDoor
open Go Go.RowKit
set_option maxHeartbeats 4000000

def topC (n : Int) : Int := if n ≤ 34560000 then n else 34560000
theorem top_step (l : List UInt8) (c : UInt8) (h : l.all isDig = true) (hc : isDig c = true) : topC (valOf (l ++ [c])) = topC (10 * topC (valOf l) + dg c) := by
  have h0 := valOf_nonneg l h
  have h1 := dg_bd hc
  rw [valOf_snoc]
  unfold topC
  split <;> split <;> omega
theorem top_bd (l : List UInt8) (h : l.all isDig = true) : 0 ≤ topC (valOf l) ∧ topC (valOf l) ≤ 34560000 := by
  have h0 := valOf_nonneg l h
  unfold topC; split <;> omega
theorem ageC_eqn (l : List UInt8) : ageC l = if unminus l = [] ∨ (unminus l).all isDig = false then none else some (if l.head? = some 45 then 0 else topC (valOf (unminus l))) := by
  unfold ageC
  by_cases hm : l.head? = some 45
  · rw [if_pos hm, if_pos hm]
  · rw [if_neg hm, if_neg hm]
    have e : unminus l = l := if_neg hm
    rw [e]; rfl
set_option maxRecDepth 100000 in
theorem rage_any (s : ByteArray) (w : World) (hs : s.size ≤ maxLen) : Calls Tryz.prog 110 #[.string s] w fun e w' => e = .returned (ageV (ageC (L s))) ∧ w = w' := by
  unfold maxLen at hs
  have hE := str_empty s
  have hle := unminus_le (L s)
  rw [L_length] at hle
  obtain ⟨V, hV⟩ := name_it (ageV (ageC (L s)))
  rw [hV.out]
  rw [ageC_eqn] at hV
  have hd : Hid (∀ p : Prop, ∀ [Decidable p] (x y : Int), (if p then x else y) = if decide p = true then x else y) := fun p _ x y => by by_cases h : p <;> simp [h]
  rw [hd.out ((L s).head? = some 45)] at hV
  have hU2 : Hid (unminus (L s) = if decide ((L s).head? = some 45) = true then (L s).drop 1 else L s) := by
    unfold Hid unminus
    by_cases h : (L s).head? = some 45 <;> simp [h]
  obtain ⟨B, hB⟩ := name_it (decide ((L s).head? = some 45))
  rw [hB.out] at hV hU2
  obtain ⟨U, hU⟩ := name_it (unminus (L s))
  rw [hU.out] at hV hU2 hle
  have hT : Hid (bs U = if B = true then s.extract 1 s.size else s) := by
    unfold Hid
    rw [hU2.out]
    cases B
    · exact bs_L s
    · rw [if_pos rfl, if_pos rfl, extract_bs]
      have : (L s).take s.size = L s := List.take_of_length_le (by rw [L_length]; omega)
      rw [this]
  have hz1 : Hid (B = true → 1 ≤ s.size) := by
    intro h
    have h2 := of_decide_eq_true (hB.out.trans h)
    rcases Nat.eq_zero_or_pos s.size with e | e
    · have : L s = [] := List.eq_nil_of_length_eq_zero (by rw [L_length]; exact e)
      rw [this] at h2; cases h2
    · exact e
  go_enter Tryz.func110, Tryz.ntmps110
  go_upto_region 2 with fail
  go_cut [13] (fun s wx => s = .bool B ∧ wx = w)
  case first =>
    by_cases hz : s.size = 0
    · have hn : L s = [] := List.eq_nil_of_length_eq_zero (by rw [L_length]; exact hz)
      have HF : B = false := by rw [← hB.out, hn]; rfl
      have hE2 : s.toList.isEmpty = true := by rw [hE, hn]; rfl
      subst HF
      clear hB hE hn hU hV hU2 hT hz1 hd
      go_wp2_with fail
      all_goals (try (exfalso; omega))
      go_meet
      case rel => exact ⟨rfl, rfl⟩
    · have hn : L s ≠ [] := fun e => hz (by rw [← L_length, e]; rfl)
      have hE2 : s.toList.isEmpty = false := by rw [hE]; exact decide_eq_false hn
      have HF : Hid (B = (((s[0]'(by omega)).toNat : Int) == 45)) := by
        unfold Hid
        rw [← hB.out]
        have := head_get s 45 (by omega)
        rw [decide_not] at this
        exact Bool.not_inj this
      clear hB hE hn hU hV hU2 hT hz1 hd
      go_wp2_with fail
      all_goals (try (exfalso; omega))
      go_meet
      case rel => exact ⟨by rw [HF.out], rfl⟩
  case rest =>
    obtain ⟨rfl, hwc⟩ := hcut
    rw [hwc]
    clear hwc hB hE hU hU2 hd
    go_upto_if 13 with fail
    go_cut [0, 4] (fun x b wx => x = .string (bs U) ∧ b = .bool B ∧ wx = w)
    case first =>
      cases B with
      | true =>
        have h1 := hz1.out rfl
        have HT := Lib.hid hT.out
        clear hT hz1 hV
        go_wp2_with fail
        all_goals (try (exfalso; omega))
        go_meet
        case rel => exact ⟨by rw [HT.out]; rfl, rfl, rfl⟩
      | false =>
        have HT := Lib.hid hT.out
        clear hT hz1 hV
        go_wp2_with fail
        all_goals (try (exfalso; omega))
        go_meet
        case rel => exact ⟨by rw [HT.out]; rfl, rfl, rfl⟩
    case rest =>
      obtain ⟨rfl, rfl, hwc⟩ := hcut
      rw [hwc]
      clear hwc hT hz1
      have hE := str_empty (bs U)
      rw [L_bs] at hE
      have hsz := size_bs U
      by_cases hn : U = []
      · have HV : Hid (V = ageV none) := by rw [← hV.out, if_pos (Or.inl hn)]; rfl
        have hE2 : (bs U).toList.isEmpty = true := by rw [hE]; exact decide_eq_true hn
        clear hV hE hn
        go_wp2_with fail
        all_goals (try (exfalso; omega))
        go_ret2
        exact ⟨by rw [HV.out]; rfl, rfl⟩
      · have hE2 : (bs U).toList.isEmpty = false := by rw [hE]; exact decide_eq_false hn
        obtain ⟨T, hT⟩ : ∃ T, T = bs U := ⟨_, rfl⟩
        rw [← hT] at hE2 hsz ⊢
        have hLT : Hid (U = L T) := by unfold Hid; rw [hT, L_bs]
        clear hE hT
        go_wp2_with fail
        go_loop [5, 6] (fun n i => ∃ k : Nat, k ≤ T.size ∧ i = .int .i64 k ∧ n = .int .i64 (topC (valOf (U.take k))) ∧ Hid ((U.take k).all isDig = true)) (fun _ i => T.size - (intOf i).toNat)
        case atStart => exact ⟨0, Nat.zero_le _, rfl, rfl, rfl⟩
        case round =>
          obtain ⟨k, hk, rfl, rfl, hr⟩ := hrel
          by_cases hlt : k < T.size
          · have hku : k < U.length := by omega
            have hget : Hid (U[k] = T[k]) := by
              have : ∀ (Z : List UInt8) (hz : k < Z.length), Z = L T → Z[k] = T[k] := by
                intro Z hz e
                subst e
                rfl
              exact this U hku hLT.out
            cases hb : isDig T[k]
            · have HV : Hid (V = ageV none) := by
                unfold Hid
                rw [← hV.out, if_pos (Or.inr _)]
                rw [Bool.eq_false_iff]
                intro hall
                have := List.all_eq_true.1 hall U[k] (List.getElem_mem hku)
                rw [hget.out, hb] at this; cases this
              have HI : Hid (T[k].toNat < 48 ∨ 57 < T[k].toNat) := by
                have : ¬ isDig T[k] = true := by rw [hb]; decide
                unfold Hid
                unfold isDig at this
                simp at this
                omega
              clear hV hr hget hb hLT
              go_wp2_with fail
              all_goals (try (exfalso; have := HI.out; omega))
              all_goals
                go_ret2
                exact ⟨by rw [HV.out]; rfl, rfl⟩
            · have hs1 := top_step (U.take k) T[k] hr.out hb
              have hbd := top_bd (U.take k) hr.out
              have hs2 : Hid (U.take (k + 1) = U.take k ++ [T[k]]) := by unfold Hid; rw [List.take_succ_eq_append_getElem hku, hget.out]
              have HR : Hid ((U.take (k + 1)).all isDig = true) := by unfold Hid; rw [hs2.out, List.all_append, hr.out]; simp [hb]
              rw [← hs2.out] at hs1
              have HS := Lib.hid hs1
              obtain ⟨M, hM⟩ := name_it (topC (valOf (U.take k)))
              rw [hM.out] at hbd HS ⊢
              have hi : 48 ≤ T[k].toNat ∧ T[k].toNat ≤ 57 := by unfold isDig at hb; simp at hb; omega
              obtain ⟨i1, i2⟩ := hi
              have hdg : dg T[k] = (T[k].toNat : Int) - 48 := rfl
              rw [hdg] at HS
              clear hV hr hget hb hLT hs1 hs2 hM hdg
              by_cases hbig : 10 * M + ((T[k].toNat : Int) - 48) ≤ 34560000
              · have HS2 : Hid (topC (valOf (U.take (k + 1))) = 10 * M + ((T[k].toNat : Int) - 48)) := by unfold Hid; rw [HS.out]; unfold topC; rw [if_pos hbig]
                clear HS
                go_wp2_with fail
                all_goals (try (exfalso; omega))
                go_round
                case rel => exact ⟨k + 1, by omega, by go_num, by rw [HS2.out], HR⟩
                case measure => simp [intOf]; omega
              · have HS2 : Hid (topC (valOf (U.take (k + 1))) = 34560000) := by unfold Hid; rw [HS.out]; unfold topC; rw [if_neg hbig]
                clear HS
                go_wp2_with fail
                all_goals (try (exfalso; omega))
                go_round
                case rel => exact ⟨k + 1, by omega, by go_num, by rw [HS2.out], HR⟩
                case measure => simp [intOf]; omega
          · obtain rfl : k = T.size := by omega
            have hta : U.take T.size = U := List.take_of_length_le (by omega)
            rw [hta] at hr ⊢
            have HV : Hid (V = ageV (some (if B = true then 0 else topC (valOf U)))) := by
              rw [← hV.out, if_neg (by rintro (h | h); exact hn h; rw [hr.out] at h; cases h)]; rfl
            clear hV hr hLT hta
            cases B
            all_goals
              go_wp2_with fail
              all_goals (try (exfalso; omega))
              go_ret2
              exact ⟨by rw [HV.out]; rfl, rfl⟩
end Go.Proofs.YtkenianfpfamcaaGreatDoor
namespace Go.Proofs.YtkenianfpfamcaaGreatDoor
open Go Go.RowKit
set_option maxHeartbeats 4000000

theorem beq_dec (a : Int) : decide (a = 0) = (a == 0) := by rw [Bool.eq_iff_iff]; simp
abbrev tRS : TypeId := 42
theorem rmoment_any (n : Int) (w : World) : Calls Tryz.prog 47 #[.int .i64 n] w fun e w' => e = .returned (.bool (isMom n)) ∧ w = w' := by
  obtain ⟨R, hR⟩ := name_it (isMom n)
  rw [hR.out]
  have hr : Hid (R = decide (-62135596800 ≤ n ∧ n ≤ 253402300799)) := hR.out.symm
  clear hR
  by_cases h1 : -62135596800 ≤ n <;> by_cases h2 : n ≤ 253402300799
  all_goals
    go_enter Tryz.func47, Tryz.ntmps47
    go_wp2_with fail
    all_goals (try (exfalso; omega))
    all_goals
      go_ret
      exact ⟨ret_bool (by rw [hr.out, Bool.eq_iff_iff]; simp; omega), rfl⟩
set_option maxRecDepth 100000 in
theorem rwrong_any (c : SetC) (w : World) (hf : FitC c) :
    Calls Tryz.prog 18 #[.agg (cellsS c).toArray] w fun e w' => e = .returned (.int .i64 (wrongC c)) ∧ Below w.heap.size w w' := by
  have K1 := Lib.hid (CellsAt.first w (cellsS c) tRS)
  have B1 := Lib.hid (below_put2 (w := w) (cs := (cellsS c).toArray) (T := tRS))
  have HR := Lib.hid (fun wx => rright_any (bs c.name) (bs c.value) wx (by rw [size_bs]; exact hf.n) (by rw [size_bs]; exact hf.v))
  have HP := Lib.hid (fun wx => rispath_any (bs c.path) wx (by unfold maxLen; rw [size_bs]; have := hf.p; omega))
  have HD := Lib.hid (fun wx => risdomain_any (bs c.domain) wx (by unfold maxLen; rw [size_bs]; have := hf.d; omega))
  have HM := Lib.hid (fun wx => rmoment_any c.expires wx)
  simp only [L_bs] at HR HP HD
  have hw : wrongC c = if rightC c.name c.value = false then 160 else if badC c then 161 else 0 := rfl
  obtain ⟨V, hV⟩ := name_it (wrongC c)
  rw [hV.out] at hw ⊢
  obtain ⟨n, v, p, d, ma, hm, ex, he, sc, ht, sm⟩ := c
  unfold cellsS at K1 B1 ⊢
  simp only at *
  have ep := empty_iff p
  have ed := empty_iff d
  clear hV hf
  go_enter Tryz.func18, Tryz.ntmps18
  go_wp2_with fail
  generalize w.alloc _ = w1 at K1 B1 ⊢
  refine (HR.out _).mono ?_; rintro e w2 ⟨rfl, hb2⟩
  have K2 := Lib.hid (K1.out.next hb2)
  have B2 := Lib.hid (B1.out.trans (hb2.mono B1.out.size))
  clear HR K1 B1 hb2
  have d2 := K2.out.at 2 _ rfl
  have d3 := K2.out.at 3 _ rfl
  have d4 := K2.out.at 4 _ rfl
  have d5 := K2.out.at 5 _ rfl
  have d6 := K2.out.at 6 _ rfl
  have d7 := K2.out.at 7 _ rfl
  have d10 := K2.out.at 10 _ rfl
  cases hr : rightC n v with
  | false =>
    have HV : Hid (V = 160) := by rw [hw, if_pos hr]; rfl
    clear hw HP HD HM ep ed K2
    go_wp2_with fail
    go_ret
    exact ⟨by rw [HV.out]; rfl, B2.out⟩
  | true =>
    have HBAD : Hid (((!decide (p = []) && !pathC p) || (!decide (d = []) && !domC d) || (decide (ma < 0) || decide (34560000 < ma)) || (!hm && !decide (ma = 0)) || (!he && !decide (ex = 0)) || (he && !isMom ex) || (decide (sm < 0) || decide (3 < sm))) = true → V = 161) := by
      intro h
      rw [hw, if_neg (by rw [hr]; decide), if_pos (bad_bool.2 h)]
    have HOK : Hid (((!decide (p = []) && !pathC p) || (!decide (d = []) && !domC d) || (decide (ma < 0) || decide (34560000 < ma)) || (!hm && !decide (ma = 0)) || (!he && !decide (ex = 0)) || (he && !isMom ex) || (decide (sm < 0) || decide (3 < sm))) = false → V = 0) := by
      intro h
      rw [hw, if_neg (by rw [hr]; decide), if_neg (fun hb => by rw [bad_bool.1 hb] at h; cases h)]
    clear hw hr K2
    obtain ⟨X0, hX0⟩ := name_it (!decide (p = []) && !pathC p)
    obtain ⟨X1, hX1⟩ := name_it (!decide (d = []) && !domC d)
    obtain ⟨X2, hX2⟩ := name_it (decide (ma < 0) || decide (34560000 < ma))
    obtain ⟨X3, hX3⟩ := name_it (!hm && !decide (ma = 0))
    obtain ⟨X4, hX4⟩ := name_it (!he && !decide (ex = 0))
    obtain ⟨X5, hX5⟩ := name_it (he && !isMom ex)
    obtain ⟨X6, hX6⟩ := name_it (decide (sm < 0) || decide (3 < sm))
    rw [hX0.out, hX1.out, hX2.out, hX3.out, hX4.out, hX5.out, hX6.out] at HBAD HOK
    go_upto_region 3 with fail
    go_cut [29] (fun s wx => s = .bool (X0 || X1) ∧ wx = w2)
    case first =>
      clear HBAD HOK
      by_cases gp : p = []
      · rw [decide_eq_true gp] at ep
        have hx : Hid (X0 = false) := by rw [← hX0.out, decide_eq_true gp]; rfl
        clear gp hX0
        by_cases gd : d = []
        · rw [decide_eq_true gd] at ed
          have hy : Hid (X1 = false) := by rw [← hX1.out, decide_eq_true gd]; rfl
          clear gd hX1
          go_wp2_with fail
          go_meet
          case rel => exact ⟨by rw [hx.out, hy.out]; rfl, rfl⟩
        · rw [decide_eq_false gd] at ed
          have hy : Hid (X1 = !domC d) := by rw [← hX1.out, decide_eq_false gd]; rfl
          clear gd hX1
          go_wp2_with (go_at_call 46; refine (HD.out _).mono ?_; rintro e w' ⟨rfl, rfl⟩)
          go_meet
          case rel => exact ⟨by rw [hx.out, hy.out]; rfl, rfl⟩
      · rw [decide_eq_false gp] at ep
        obtain ⟨PB, hPB⟩ := name_it (pathC p)
        rw [hPB.out] at HP
        have hx : Hid (X0 = !PB) := by rw [← hX0.out, decide_eq_false gp, hPB.out]; rfl
        clear gp hX0 hPB
        cases PB with
        | false =>
          go_wp2_with (go_at_call 45; refine (HP.out _).mono ?_; rintro e w' ⟨rfl, rfl⟩)
          go_meet
          case rel => exact ⟨by rw [hx.out]; rfl, rfl⟩
        | true =>
          by_cases gd : d = []
          · rw [decide_eq_true gd] at ed
            have hy : Hid (X1 = false) := by rw [← hX1.out, decide_eq_true gd]; rfl
            clear gd hX1
            go_wp2_with (go_at_call 45; refine (HP.out _).mono ?_; rintro e w' ⟨rfl, rfl⟩)
            go_meet
            case rel => exact ⟨by rw [hx.out, hy.out]; rfl, rfl⟩
          · rw [decide_eq_false gd] at ed
            have hy : Hid (X1 = !domC d) := by rw [← hX1.out, decide_eq_false gd]; rfl
            clear gd hX1
            go_wp2_with (first | (go_at_call 45; refine (HP.out _).mono ?_; rintro e w' ⟨rfl, rfl⟩) | (go_at_call 46; refine (HD.out _).mono ?_; rintro e w' ⟨rfl, rfl⟩))
            go_meet
            case rel => exact ⟨by rw [hx.out, hy.out]; rfl, rfl⟩
    case rest =>
      obtain ⟨rfl, hwc⟩ := hcut
      rw [hwc]
      clear hwc hX0 hX1 HP HD ep ed
      cases hXX : (X0 || X1) with
      | true =>
        have HV := Lib.hid (HBAD.out (by rw [hXX]; simp))
        clear HBAD HOK hXX
        go_wp2_with fail
        go_ret
        exact ⟨by rw [HV.out]; rfl, B2.out⟩
      | false =>
        rw [hXX] at HBAD HOK
        clear hXX
        go_upto_region 5 with fail
        go_cut [47] (fun s wx => s = .bool (X2 || X3) ∧ wx = w2)
        case first =>
          clear HBAD HOK
          by_cases g1 : ma < 0
          · have hx : Hid (X2 = true) := by rw [← hX2.out, decide_eq_true g1]; rfl
            clear hX2 hX3
            go_wp2_with fail
            all_goals (try (exfalso; (try simp only [beq_iff_eq, beq_eq_false_iff_ne, ne_eq] at *); omega))
            all_goals
              go_meet
              case rel => exact ⟨by rw [hx.out]; rfl, rfl⟩
          · by_cases g2 : 34560000 < ma
            · have hx : Hid (X2 = true) := by rw [← hX2.out, decide_eq_true g2, Bool.or_true]; rfl
              clear hX2 hX3
              go_wp2_with fail
              all_goals (try (exfalso; (try simp only [beq_iff_eq, beq_eq_false_iff_ne, ne_eq] at *); omega))
              all_goals
                go_meet
                case rel => exact ⟨by rw [hx.out]; rfl, rfl⟩
            · have hx : Hid (X2 = false) := by rw [← hX2.out, decide_eq_false g1, decide_eq_false g2]; rfl
              have hy : Hid (X3 = (!hm && !(ma == 0))) := by
                rw [← hX3.out]; unfold Hid
                rw [beq_dec]
              clear hX2 hX3
              by_cases hq : ma = 0
              · subst hq
                cases hm
                all_goals
                  go_wp2_with fail
                  go_meet
                  case rel => exact ⟨val_bool (by rw [hx.out, hy.out]; rfl), rfl⟩
              have hqb : (ma == 0) = false := by simp [hq]
              rw [hqb] at hy
              cases hm
              all_goals
                go_wp2_with fail
                all_goals (try (exfalso; (try simp only [beq_eq_false_iff_ne, ne_eq] at *); omega))
                all_goals
                  go_meet
                  case rel => exact ⟨val_bool (by rw [hx.out, hy.out]; first | rfl | simp_all), rfl⟩
        case rest =>
          obtain ⟨rfl, hwc⟩ := hcut
          rw [hwc]
          clear hwc hX2 hX3
          cases hXX : (X2 || X3) with
          | true =>
            have HV := Lib.hid (HBAD.out (by revert hXX; cases X2 <;> cases X3 <;> simp))
            clear HBAD HOK hXX
            go_wp2_with fail
            go_ret
            exact ⟨by rw [HV.out]; rfl, B2.out⟩
          | false =>
            obtain ⟨h2, h3⟩ : X2 = false ∧ X3 = false := by revert hXX; cases X2 <;> cases X3 <;> simp
            subst h2 h3
            clear hXX
            go_upto_region 7 with fail
            go_cut [75] (fun s wx => s = .bool (X5 || X4 || X6) ∧ wx = w2)
            case first =>
              clear HBAD HOK
              obtain ⟨QE, hQE⟩ := name_it (isMom ex)
              rw [hQE.out] at HM hX5
              have hy : Hid (X4 = (!he && !(ex == 0))) := by
                rw [← hX4.out]; unfold Hid
                rw [beq_dec]
              have hz := hX6.out
              clear hX4 hX6 hQE
              by_cases hq : ex = 0
              · subst hq
                have hy : Hid (X4 = false) := by rw [hy.out]; cases he <;> rfl
                by_cases g1 : sm < 0
                · have hx6 : Hid (X6 = true) := by rw [← hz, decide_eq_true g1]; rfl
                  clear hz
                  cases he <;> cases QE
                  all_goals
                    go_wp2_with (go_at_call 47; refine (HM.out _).mono ?_; rintro e w' ⟨rfl, rfl⟩)
                    all_goals (try (exfalso; omega))
                    all_goals
                      go_meet
                      case rel => exact ⟨val_bool (by rw [hx6.out, hy.out, ← hX5.out]; first | rfl | (rw [decide_eq_false (by omega)]; rfl)), rfl⟩
                · by_cases g2 : 3 < sm
                  · have hx6 : Hid (X6 = true) := by rw [← hz, decide_eq_true g2, Bool.or_true]; rfl
                    clear hz
                    cases he <;> cases QE
                    all_goals
                      go_wp2_with (go_at_call 47; refine (HM.out _).mono ?_; rintro e w' ⟨rfl, rfl⟩)
                      all_goals (try (exfalso; omega))
                      all_goals
                        go_meet
                        case rel => exact ⟨val_bool (by rw [hx6.out, hy.out, ← hX5.out]; first | rfl | (rw [decide_eq_false (by omega)]; rfl)), rfl⟩
                  · have hx6 : Hid (X6 = false) := by rw [← hz, decide_eq_false g1, decide_eq_false g2]; rfl
                    clear hz
                    cases he <;> cases QE
                    all_goals
                      go_wp2_with (go_at_call 47; refine (HM.out _).mono ?_; rintro e w' ⟨rfl, rfl⟩)
                      all_goals (try (exfalso; omega))
                      all_goals
                        go_meet
                        case rel => exact ⟨val_bool (by rw [hx6.out, hy.out, ← hX5.out]; first | rfl | (rw [decide_eq_false (by omega)]; rfl)), rfl⟩
              have hqb : (ex == 0) = false := by simp [hq]
              rw [hqb] at hy
              have hy : Hid (X4 = !he) := by rw [hy.out]; cases he <;> rfl
              by_cases g1 : sm < 0
              · have hx6 : Hid (X6 = true) := by rw [← hz, decide_eq_true g1]; rfl
                clear hz
                cases he <;> cases QE
                all_goals
                  go_wp2_with (go_at_call 47; refine (HM.out _).mono ?_; rintro e w' ⟨rfl, rfl⟩)
                  all_goals (try (exfalso; omega))
                  all_goals
                    go_meet
                    case rel => exact ⟨val_bool (by rw [hx6.out, hy.out, ← hX5.out]; first | rfl | (rw [decide_eq_false (by omega)]; rfl)), rfl⟩
              · by_cases g2 : 3 < sm
                · have hx6 : Hid (X6 = true) := by rw [← hz, decide_eq_true g2, Bool.or_true]; rfl
                  clear hz
                  cases he <;> cases QE
                  all_goals
                    go_wp2_with (go_at_call 47; refine (HM.out _).mono ?_; rintro e w' ⟨rfl, rfl⟩)
                    all_goals (try (exfalso; omega))
                    all_goals
                      go_meet
                      case rel => exact ⟨val_bool (by rw [hx6.out, hy.out, ← hX5.out]; first | rfl | (rw [decide_eq_false (by omega)]; rfl)), rfl⟩
                · have hx6 : Hid (X6 = false) := by rw [← hz, decide_eq_false g1, decide_eq_false g2]; rfl
                  clear hz
                  cases he <;> cases QE
                  all_goals
                    go_wp2_with (go_at_call 47; refine (HM.out _).mono ?_; rintro e w' ⟨rfl, rfl⟩)
                    all_goals (try (exfalso; omega))
                    all_goals
                      go_meet
                      case rel => exact ⟨val_bool (by rw [hx6.out, hy.out, ← hX5.out]; first | rfl | (rw [decide_eq_false (by omega)]; rfl)), rfl⟩
            case rest =>
              obtain ⟨rfl, hwc⟩ := hcut
              rw [hwc]
              clear hwc hX4 hX5 hX6
              cases hXX : (X5 || X4 || X6) with
              | true =>
                have HV := Lib.hid (HBAD.out (by revert hXX; cases X4 <;> cases X5 <;> cases X6 <;> simp))
                clear HBAD HOK hXX
                go_wp2_with fail
                go_ret
                exact ⟨by rw [HV.out]; rfl, B2.out⟩
              | false =>
                have HV := Lib.hid (HOK.out (by revert hXX; cases X4 <;> cases X5 <;> cases X6 <;> simp))
                clear HBAD HOK hXX
                go_wp2_with fail
                go_ret
                exact ⟨by rw [HV.out]; rfl, B2.out⟩
end Go.Proofs.YtkenianfpfamcaaGreatDoor
