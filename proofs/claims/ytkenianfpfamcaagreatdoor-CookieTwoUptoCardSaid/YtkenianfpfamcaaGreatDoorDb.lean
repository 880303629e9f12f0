/- Contracts of the document's cookie: what is wrong with one that is set. The law's set: a cookie as the document has it. Cookies copied to a slice of the call's own. -/
import Derived.Test.YtkenianfpfamcaaGreatDoorDa
import Derived.Test.YtkenianfpfamcaaGreatDoorCookWJ
import Derived.Test.YtkenianfpfamcaaGreatDoorCookVJ
import Derived.Deep.Upon
namespace Go.Proofs.YtkenianfpfamcaaGreatDoor
open Go Go.RowKit
set_option maxHeartbeats 4000000

theorem beq_dec (a : Int) : decide (a = 0) = (a == 0) := by rw [Bool.eq_iff_iff]; simp
abbrev tRS : TypeId := 42
theorem rmoment_any (n : Int) (w : World) : Calls Tryz.prog 47 #[.int .i64 n] w fun e w' => e = .returned (.bool (isMom n)) ∧ w = w' := by
  obtain ⟨R, hR⟩ := name_it (isMom n)
  rw [hR.out]
  have hr : Hid (R = decide (-62135596800 ≤ n ∧ n ≤ 253402300799)) := hR.out.symm
  clear hR
  by_cases h1 : -62135596800 ≤ n <;> by_cases h2 : n ≤ 253402300799
  all_goals
    go_enter Tryz.func47, Tryz.ntmps47
    go_wp2_with fail
    all_goals (try (exfalso; omega))
    all_goals
      go_ret
      exact ⟨ret_bool (by rw [hr.out, Bool.eq_iff_iff]; simp; omega), rfl⟩
set_option maxRecDepth 100000 in
theorem rwrong_any (c : SetC) (w : World) (hf : FitC c) :
    Calls Tryz.prog 18 #[.agg (cellsS c).toArray] w fun e w' => e = .returned (.int .i64 (wrongC c)) ∧ Below w.heap.size w w' := by
  have K1 := Lib.hid (CellsAt.first w (cellsS c) tRS)
  have B1 := Lib.hid (below_put2 (w := w) (cs := (cellsS c).toArray) (T := tRS))
  have HR := Lib.hid (fun wx => rright_any (bs c.name) (bs c.value) wx (by rw [size_bs]; exact hf.n) (by rw [size_bs]; exact hf.v))
  have HP := Lib.hid (fun wx => rispath_any (bs c.path) wx (by unfold maxLen; rw [size_bs]; have := hf.p; omega))
  have HD := Lib.hid (fun wx => risdomain_any (bs c.domain) wx (by unfold maxLen; rw [size_bs]; have := hf.d; omega))
  have HM := Lib.hid (fun wx => rmoment_any c.expires wx)
  simp only [L_bs] at HR HP HD
  have hw : wrongC c = if rightC c.name c.value = false then 160 else if badC c then 161 else 0 := rfl
  obtain ⟨V, hV⟩ := name_it (wrongC c)
  rw [hV.out] at hw ⊢
  obtain ⟨n, v, p, d, ma, hm, ex, he, sc, ht, sm⟩ := c
  unfold cellsS at K1 B1 ⊢
  simp only at *
  have ep := empty_iff p
  have ed := empty_iff d
  clear hV hf
  go_enter Tryz.func18, Tryz.ntmps18
  go_wp2_with fail
  generalize w.alloc _ = w1 at K1 B1 ⊢
  refine (HR.out _).mono ?_; rintro e w2 ⟨rfl, hb2⟩
  have K2 := Lib.hid (K1.out.next hb2)
  have B2 := Lib.hid (B1.out.trans (hb2.mono B1.out.size))
  clear HR K1 B1 hb2
  have d2 := K2.out.at 2 _ rfl
  have d3 := K2.out.at 3 _ rfl
  have d4 := K2.out.at 4 _ rfl
  have d5 := K2.out.at 5 _ rfl
  have d6 := K2.out.at 6 _ rfl
  have d7 := K2.out.at 7 _ rfl
  have d10 := K2.out.at 10 _ rfl
  cases hr : rightC n v with
  | false =>
    have HV : Hid (V = 160) := by rw [hw, if_pos hr]; rfl
    clear hw HP HD HM ep ed K2
    go_wp2_with fail
    go_ret
    exact ⟨by rw [HV.out]; rfl, B2.out⟩
  | true =>
    have HBAD : Hid (((!decide (p = []) && !pathC p) || (!decide (d = []) && !domC d) || (decide (ma < 0) || decide (34560000 < ma)) || (!hm && !decide (ma = 0)) || (!he && !decide (ex = 0)) || (he && !isMom ex) || (decide (sm < 0) || decide (3 < sm))) = true → V = 161) := by
      intro h
      rw [hw, if_neg (by rw [hr]; decide), if_pos (bad_bool.2 h)]
    have HOK : Hid (((!decide (p = []) && !pathC p) || (!decide (d = []) && !domC d) || (decide (ma < 0) || decide (34560000 < ma)) || (!hm && !decide (ma = 0)) || (!he && !decide (ex = 0)) || (he && !isMom ex) || (decide (sm < 0) || decide (3 < sm))) = false → V = 0) := by
      intro h
      rw [hw, if_neg (by rw [hr]; decide), if_neg (fun hb => by rw [bad_bool.1 hb] at h; cases h)]
    clear hw hr K2
    obtain ⟨X0, hX0⟩ := name_it (!decide (p = []) && !pathC p)
    obtain ⟨X1, hX1⟩ := name_it (!decide (d = []) && !domC d)
    obtain ⟨X2, hX2⟩ := name_it (decide (ma < 0) || decide (34560000 < ma))
    obtain ⟨X3, hX3⟩ := name_it (!hm && !decide (ma = 0))
    obtain ⟨X4, hX4⟩ := name_it (!he && !decide (ex = 0))
    obtain ⟨X5, hX5⟩ := name_it (he && !isMom ex)
    obtain ⟨X6, hX6⟩ := name_it (decide (sm < 0) || decide (3 < sm))
    rw [hX0.out, hX1.out, hX2.out, hX3.out, hX4.out, hX5.out, hX6.out] at HBAD HOK
    go_upto_region 3 with fail
    go_cut [29] (fun s wx => s = .bool (X0 || X1) ∧ wx = w2)
    case first =>
      clear HBAD HOK
      by_cases gp : p = []
      · rw [decide_eq_true gp] at ep
        have hx : Hid (X0 = false) := by rw [← hX0.out, decide_eq_true gp]; rfl
        clear gp hX0
        by_cases gd : d = []
        · rw [decide_eq_true gd] at ed
          have hy : Hid (X1 = false) := by rw [← hX1.out, decide_eq_true gd]; rfl
          clear gd hX1
          go_wp2_with fail
          go_meet
          case rel => exact ⟨by rw [hx.out, hy.out]; rfl, rfl⟩
        · rw [decide_eq_false gd] at ed
          have hy : Hid (X1 = !domC d) := by rw [← hX1.out, decide_eq_false gd]; rfl
          clear gd hX1
          go_wp2_with (go_at_call 46; refine (HD.out _).mono ?_; rintro e w' ⟨rfl, rfl⟩)
          go_meet
          case rel => exact ⟨by rw [hx.out, hy.out]; rfl, rfl⟩
      · rw [decide_eq_false gp] at ep
        obtain ⟨PB, hPB⟩ := name_it (pathC p)
        rw [hPB.out] at HP
        have hx : Hid (X0 = !PB) := by rw [← hX0.out, decide_eq_false gp, hPB.out]; rfl
        clear gp hX0 hPB
        cases PB with
        | false =>
          go_wp2_with (go_at_call 45; refine (HP.out _).mono ?_; rintro e w' ⟨rfl, rfl⟩)
          go_meet
          case rel => exact ⟨by rw [hx.out]; rfl, rfl⟩
        | true =>
          by_cases gd : d = []
          · rw [decide_eq_true gd] at ed
            have hy : Hid (X1 = false) := by rw [← hX1.out, decide_eq_true gd]; rfl
            clear gd hX1
            go_wp2_with (go_at_call 45; refine (HP.out _).mono ?_; rintro e w' ⟨rfl, rfl⟩)
            go_meet
            case rel => exact ⟨by rw [hx.out, hy.out]; rfl, rfl⟩
          · rw [decide_eq_false gd] at ed
            have hy : Hid (X1 = !domC d) := by rw [← hX1.out, decide_eq_false gd]; rfl
            clear gd hX1
            go_wp2_with (first | (go_at_call 45; refine (HP.out _).mono ?_; rintro e w' ⟨rfl, rfl⟩) | (go_at_call 46; refine (HD.out _).mono ?_; rintro e w' ⟨rfl, rfl⟩))
            go_meet
            case rel => exact ⟨by rw [hx.out, hy.out]; rfl, rfl⟩
    case rest =>
      obtain ⟨rfl, hwc⟩ := hcut
      rw [hwc]
      clear hwc hX0 hX1 HP HD ep ed
      cases hXX : (X0 || X1) with
      | true =>
        have HV := Lib.hid (HBAD.out (by rw [hXX]; simp))
        clear HBAD HOK hXX
        go_wp2_with fail
        go_ret
        exact ⟨by rw [HV.out]; rfl, B2.out⟩
      | false =>
        rw [hXX] at HBAD HOK
        clear hXX
        go_upto_region 5 with fail
        go_cut [47] (fun s wx => s = .bool (X2 || X3) ∧ wx = w2)
        case first =>
          clear HBAD HOK
          by_cases g1 : ma < 0
          · have hx : Hid (X2 = true) := by rw [← hX2.out, decide_eq_true g1]; rfl
            clear hX2 hX3
            go_wp2_with fail
            all_goals (try (exfalso; (try simp only [beq_iff_eq, beq_eq_false_iff_ne, ne_eq] at *); omega))
            all_goals
              go_meet
              case rel => exact ⟨by rw [hx.out]; rfl, rfl⟩
          · by_cases g2 : 34560000 < ma
            · have hx : Hid (X2 = true) := by rw [← hX2.out, decide_eq_true g2, Bool.or_true]; rfl
              clear hX2 hX3
              go_wp2_with fail
              all_goals (try (exfalso; (try simp only [beq_iff_eq, beq_eq_false_iff_ne, ne_eq] at *); omega))
              all_goals
                go_meet
                case rel => exact ⟨by rw [hx.out]; rfl, rfl⟩
            · have hx : Hid (X2 = false) := by rw [← hX2.out, decide_eq_false g1, decide_eq_false g2]; rfl
              have hy : Hid (X3 = (!hm && !(ma == 0))) := by
                rw [← hX3.out]; unfold Hid
                rw [beq_dec]
              clear hX2 hX3
              by_cases hq : ma = 0
              · subst hq
                cases hm
                all_goals
                  go_wp2_with fail
                  go_meet
                  case rel => exact ⟨val_bool (by rw [hx.out, hy.out]; rfl), rfl⟩
              have hqb : (ma == 0) = false := by simp [hq]
              rw [hqb] at hy
              cases hm
              all_goals
                go_wp2_with fail
                all_goals (try (exfalso; (try simp only [beq_eq_false_iff_ne, ne_eq] at *); omega))
                all_goals
                  go_meet
                  case rel => exact ⟨val_bool (by rw [hx.out, hy.out]; first | rfl | simp_all), rfl⟩
        case rest =>
          obtain ⟨rfl, hwc⟩ := hcut
          rw [hwc]
          clear hwc hX2 hX3
          cases hXX : (X2 || X3) with
          | true =>
            have HV := Lib.hid (HBAD.out (by revert hXX; cases X2 <;> cases X3 <;> simp))
            clear HBAD HOK hXX
            go_wp2_with fail
            go_ret
            exact ⟨by rw [HV.out]; rfl, B2.out⟩
          | false =>
            obtain ⟨h2, h3⟩ : X2 = false ∧ X3 = false := by revert hXX; cases X2 <;> cases X3 <;> simp
            subst h2 h3
            clear hXX
            go_upto_region 7 with fail
            go_cut [75] (fun s wx => s = .bool (X5 || X4 || X6) ∧ wx = w2)
            case first =>
              clear HBAD HOK
              obtain ⟨QE, hQE⟩ := name_it (isMom ex)
              rw [hQE.out] at HM hX5
              have hy : Hid (X4 = (!he && !(ex == 0))) := by
                rw [← hX4.out]; unfold Hid
                rw [beq_dec]
              have hz := hX6.out
              clear hX4 hX6 hQE
              by_cases hq : ex = 0
              · subst hq
                have hy : Hid (X4 = false) := by rw [hy.out]; cases he <;> rfl
                by_cases g1 : sm < 0
                · have hx6 : Hid (X6 = true) := by rw [← hz, decide_eq_true g1]; rfl
                  clear hz
                  cases he <;> cases QE
                  all_goals
                    go_wp2_with (go_at_call 47; refine (HM.out _).mono ?_; rintro e w' ⟨rfl, rfl⟩)
                    all_goals (try (exfalso; omega))
                    all_goals
                      go_meet
                      case rel => exact ⟨val_bool (by rw [hx6.out, hy.out, ← hX5.out]; first | rfl | (rw [decide_eq_false (by omega)]; rfl)), rfl⟩
                · by_cases g2 : 3 < sm
                  · have hx6 : Hid (X6 = true) := by rw [← hz, decide_eq_true g2, Bool.or_true]; rfl
                    clear hz
                    cases he <;> cases QE
                    all_goals
                      go_wp2_with (go_at_call 47; refine (HM.out _).mono ?_; rintro e w' ⟨rfl, rfl⟩)
                      all_goals (try (exfalso; omega))
                      all_goals
                        go_meet
                        case rel => exact ⟨val_bool (by rw [hx6.out, hy.out, ← hX5.out]; first | rfl | (rw [decide_eq_false (by omega)]; rfl)), rfl⟩
                  · have hx6 : Hid (X6 = false) := by rw [← hz, decide_eq_false g1, decide_eq_false g2]; rfl
                    clear hz
                    cases he <;> cases QE
                    all_goals
                      go_wp2_with (go_at_call 47; refine (HM.out _).mono ?_; rintro e w' ⟨rfl, rfl⟩)
                      all_goals (try (exfalso; omega))
                      all_goals
                        go_meet
                        case rel => exact ⟨val_bool (by rw [hx6.out, hy.out, ← hX5.out]; first | rfl | (rw [decide_eq_false (by omega)]; rfl)), rfl⟩
              have hqb : (ex == 0) = false := by simp [hq]
              rw [hqb] at hy
              have hy : Hid (X4 = !he) := by rw [hy.out]; cases he <;> rfl
              by_cases g1 : sm < 0
              · have hx6 : Hid (X6 = true) := by rw [← hz, decide_eq_true g1]; rfl
                clear hz
                cases he <;> cases QE
                all_goals
                  go_wp2_with (go_at_call 47; refine (HM.out _).mono ?_; rintro e w' ⟨rfl, rfl⟩)
                  all_goals (try (exfalso; omega))
                  all_goals
                    go_meet
                    case rel => exact ⟨val_bool (by rw [hx6.out, hy.out, ← hX5.out]; first | rfl | (rw [decide_eq_false (by omega)]; rfl)), rfl⟩
              · by_cases g2 : 3 < sm
                · have hx6 : Hid (X6 = true) := by rw [← hz, decide_eq_true g2, Bool.or_true]; rfl
                  clear hz
                  cases he <;> cases QE
                  all_goals
                    go_wp2_with (go_at_call 47; refine (HM.out _).mono ?_; rintro e w' ⟨rfl, rfl⟩)
                    all_goals (try (exfalso; omega))
                    all_goals
                      go_meet
                      case rel => exact ⟨val_bool (by rw [hx6.out, hy.out, ← hX5.out]; first | rfl | (rw [decide_eq_false (by omega)]; rfl)), rfl⟩
                · have hx6 : Hid (X6 = false) := by rw [← hz, decide_eq_false g1, decide_eq_false g2]; rfl
                  clear hz
                  cases he <;> cases QE
                  all_goals
                    go_wp2_with (go_at_call 47; refine (HM.out _).mono ?_; rintro e w' ⟨rfl, rfl⟩)
                    all_goals (try (exfalso; omega))
                    all_goals
                      go_meet
                      case rel => exact ⟨val_bool (by rw [hx6.out, hy.out, ← hX5.out]; first | rfl | (rw [decide_eq_false (by omega)]; rfl)), rfl⟩
            case rest =>
              obtain ⟨rfl, hwc⟩ := hcut
              rw [hwc]
              clear hwc hX4 hX5 hX6
              cases hXX : (X5 || X4 || X6) with
              | true =>
                have HV := Lib.hid (HBAD.out (by revert hXX; cases X4 <;> cases X5 <;> cases X6 <;> simp))
                clear HBAD HOK hXX
                go_wp2_with fail
                go_ret
                exact ⟨by rw [HV.out]; rfl, B2.out⟩
              | false =>
                have HV := Lib.hid (HOK.out (by revert hXX; cases X4 <;> cases X5 <;> cases X6 <;> simp))
                clear HBAD HOK hXX
                go_wp2_with fail
                go_ret
                exact ⟨by rw [HV.out]; rfl, B2.out⟩
end Go.Proofs.YtkenianfpfamcaaGreatDoor
namespace Go.Proofs.YtkenianfpfamcaaGreatDoor
open Go Go.RowKit
set_option maxHeartbeats 4000000

abbrev tRSet : TypeId := 42
set_option maxRecDepth 100000 in
theorem set_law (c : SetC) (w : World) : Calls Tryz.prog 19 #[.agg (cellsS c).toArray] w fun e w' => e = .returned (.agg (cellsS c).toArray) ∧ Below w.heap.size w w' := by
  have KA := Lib.hid (CellsAt.first w (cellsS c) tS)
  have BA := Lib.hid (below_put2 (w := w) (cs := (cellsS c).toArray) (T := tS))
  have HS : Hid (.agg (cellsS c).toArray = (.agg (cellsS c).toArray : Value)) := rfl
  obtain ⟨V, hV⟩ := name_it (.agg (cellsS c).toArray : Value)
  have HV : Hid ((.agg (cellsS c).toArray : Value) = V) := hV.out
  have hgoal : (Ending.returned (.agg (cellsS c).toArray) : Ending) = .returned V := by rw [hV.out]
  rw [hgoal]
  clear hgoal HS hV
  obtain ⟨n, v, p, d, ma, hm, ex, he, sc, ht, sm⟩ := c
  unfold cellsS at KA BA HV ⊢
  simp only at *
  go_enter Tryz.func19, Tryz.ntmps19
  have KF := Lib.hid (CellsAt.first (w.alloc (.cells #[.string (bs n), .string (bs v), .string (bs p), .string (bs d), .int .i64 ma, .bool hm, .int .i64 ex, .bool he, .bool sc, .bool ht, .int .i64 sm] tS)) [.string (bs n), .string (bs v), .string (bs p), .string (bs d), .int .i64 ma, .bool hm, .int .i64 ex, .bool he, .bool sc, .bool ht, .int .i64 sm] tRSet)
  have BF := Lib.hid (BA.out.alloc BA.out.size (.cells #[.string (bs n), .string (bs v), .string (bs p), .string (bs d), .int .i64 ma, .bool hm, .int .i64 ex, .bool he, .bool sc, .bool ht, .int .i64 sm] tRSet))
  have hsz : (w.alloc (.cells #[.string (bs n), .string (bs v), .string (bs p), .string (bs d), .int .i64 ma, .bool hm, .int .i64 ex, .bool he, .bool sc, .bool ht, .int .i64 sm] tS)).heap.size = w.heap.size + 1 := by
    show (w.heap.push _).size = _
    rw [Array.size_push]
  rw [hsz] at KF
  clear hsz
  go_wp2_with fail
  have f0 := KF.out.at 0 _ rfl
  have f1 := KF.out.at 1 _ rfl
  have f2 := KF.out.at 2 _ rfl
  have f3 := KF.out.at 3 _ rfl
  have f4 := KF.out.at 4 _ rfl
  have f5 := KF.out.at 5 _ rfl
  have f6 := KF.out.at 6 _ rfl
  have f7 := KF.out.at 7 _ rfl
  have f8 := KF.out.at 8 _ rfl
  have f9 := KF.out.at 9 _ rfl
  have f10 := KF.out.at 10 _ rfl
  refine bodyPost_ret (v := .agg #[.string (bs n), .string (bs v), .string (bs p), .string (bs d), .int .i64 ma, .bool hm, .int .i64 ex, .bool he, .bool sc, .bool ht, .int .i64 sm]) (by simp [results, Tryz.results19, go_sem, f0, f1, f2, f3, f4, f5, f6, f7, f8, f9, f10]) rfl ?_
  exact ⟨by rw [← HV.out], BF.out⟩
end Go.Proofs.YtkenianfpfamcaaGreatDoor
namespace Go.Proofs.YtkenianfpfamcaaGreatDoor
open Go Go.RowKit

theorem wpList_append_nil {P : Program} {w : World} {ops : Array Oper} {rest : List Oper} {o : Oper} {a : Act} {Q : Exit → Act → World → Prop} (hgd : o.guard = none) (s x : Operand) (t : TypeId)
    (ho : o.op = .call { callee := .builtin .append, args := #[s, x], argTypes := #[t, t] })
    (e : TypeId) (i : TypeInfo) (ht : P.underlying t = some (.slice e)) (hi : P.info? e = some i)
    {p : Option Addr} {n c c' : Nat} (hnc : n ≤ c) (hs : a.eval s = .slice p n c) (hx : a.eval x = .slice none 0 c')
    (h : wpList P ops Q rest (a.put o.dst (.slice p n c)) w) : wpList P ops Q (o :: rest) a w := by
  refine wpList_plain hgd fun _ hK => ?_
  have hr := run_append_nothing (P := P) w t t o.type e i ht hi p n c hnc (.slice none 0 c') (Src.ofNil w ht c')
  unfold Oper.wp execOp
  simp only [ho, resolve, invoke, builtin, Sem.run_bind, Sem.run_pure, Result.andThen_ok, List.map_toArray, List.map_cons, List.map_nil, hs, hx, hr]
  exact hK _ _ h
end Go.Proofs.YtkenianfpfamcaaGreatDoor
