/- Contract of cookie.PrintSet: what a server sets, as text. -/
import Derived.Test.YtkenianfpfamcaaGreatDoorCookVJ
import Derived.Deep.DeepCutAuto
import Derived.Deep.CutBlock
import Derived.Deep.RegionHeld3
import Derived.Lib.ItoaLen
namespace Go.Proofs.YtkenianfpfamcaaGreatDoor
open Go Go.RowKit Go.Maps
set_option maxHeartbeats 4000000

theorem jt_say (X : List UInt8) (b : Bool) (t : List UInt8) : X ++ Lib.joinTail [59, 32] (sayIf b t) = if b = true then X ++ ([59, 32] ++ t) else X := by
  cases b
  · rw [if_neg (by decide)]; show X ++ [] = X; exact List.append_nil X
  · rw [if_pos rfl]; show X ++ Lib.joinTail [59, 32] [t] = _; unfold Lib.joinTail; simp
set_option maxRecDepth 100000 in
theorem say_any (o : Nat) (b : Bool) (X : List UInt8) (t : ByteArray) (w : World) (h : CellsAt w o [.string (bs X)]) (hX : X.length ≤ 109951162777) (ht : t.size ≤ 109951162777) :
    Calls Tryz.prog 51 #[.bool b, .string t, .pointer (some ⟨o, 0, none⟩)] w fun e w' => e = .returned (.tuple #[]) ∧ CellsAt w' o [.string (bs (X ++ Lib.joinTail [59, 32] (sayIf b (L t))))] ∧ Keeps (fun i => i = o) w w' := by
  rw [jt_say]
  cases b with
  | false =>
    have H := Lib.hid h
    clear h
    rw [if_neg (by decide)]
    go_enter Tryz.func51, Tryz.ntmps51
    go_wp2_with fail
    refine bodyPost_end (results_none rfl _ _ _) rfl ?_
    exact ⟨rfl, H.out, Keeps.refl _ _⟩
  | true =>
    rw [if_pos rfl]
    have z := h.at 0 _ rfl
    have y := h.free 0
    have e : bs X ++ ((⟨#[59, 32]⟩ : ByteArray) ++ t) = bs (X ++ ([59, 32] ++ L t)) := by
      have h1 : (⟨#[59, 32]⟩ : ByteArray) ++ t = bs ([59, 32] ++ L t) := bs_append [59, 32] (L t)
      rw [h1, bs_append]
    have s1 : (bs X).size = X.length := size_bs X
    have s2 : (⟨#[59, 32]⟩ : ByteArray).size = 2 := rfl
    have HE := Lib.hid e
    have HC := Lib.hid (h.set 0 (by simp) (.string (bs (X ++ ([59, 32] ++ L t)))))
    clear h e
    go_enter Tryz.func51, Tryz.ntmps51
    go_wp2_with fail
    all_goals (try (exfalso; simp only [ByteArray.size_append] at *; omega))
    refine bodyPost_end (results_none rfl _ _ _) rfl ?_
    rw [HE.out]
    exact ⟨rfl, HC.out, Keeps.set (S := fun i => i = o) rfl _ _ _⟩
theorem say_len (X : List UInt8) (b : Bool) (t : List UInt8) : (X ++ Lib.joinTail [59, 32] (sayIf b t)).length ≤ X.length + 2 + t.length := by
  rw [jt_say]; split
  · simp; omega
  · omega
theorem itoa_any (n : Int) (w : World) (h : EnvS w) (h0 : -9223372036854775808 ≤ n) (h1 : n ≤ 9223372036854775807) :
    Calls Tryz.prog 52 #[.int .i64 n] w fun e w' => e = .returned (.string (bs (Lib.itoa n))) ∧ Below w.heap.size w w' := by
  refine (Tryz.strconv_Itoa n h0 h1 _ h.pow).mono ?_
  rintro e w' ⟨rfl, k, os, rfl⟩
  exact ⟨rfl, grow_below w k os⟩
theorem write_le64 (m : Int) (form : Nat) : (writeOf m form).length ≤ 64 := by
  unfold writeOf writeL Stm.txt Stm.clk
  obtain ⟨n, hn⟩ := name_it (splitN m % 7).toNat
  obtain ⟨k, hk⟩ := name_it (Cal.mOf (splitN m) - 1).toNat
  rw [hn.out, hk.out]
  have a := long_len n
  have b := short_len n
  have c := mon_len k
  split
  · simp only [Stm.d2, Stm.d4, List.length_append, List.length_cons, List.length_nil] 
    split <;> simp only [List.length_cons, List.length_nil] <;> omega
  · split
    · simp only [Stm.d2, List.length_append, List.length_cons, List.length_nil] 
      split <;> simp only [List.length_cons, List.length_nil] <;> omega
    · simp only [Stm.d2, Stm.d4, List.length_append, List.length_cons, List.length_nil] 
      split <;> simp only [List.length_cons, List.length_nil] <;> omega
theorem date_len (m : Int) : (writeOf m 0).length ≤ 100 := Nat.le_trans (write_le64 m 0) (by decide)
theorem jt_append (a b : List (List UInt8)) : Lib.joinTail [59, 32] (a ++ b) = Lib.joinTail [59, 32] a ++ Lib.joinTail [59, 32] b := by
  unfold Lib.joinTail; simp
theorem text_chain (c : SetC) (h5 : (c.hasExp && !isMom c.expires) = false) :
    eqC (c.name, c.value) ++ Lib.joinTail [59, 32] (sayIf (!decide (c.path = [])) ([80, 97, 116, 104, 61] ++ c.path)) ++ Lib.joinTail [59, 32] (sayIf (!decide (c.domain = [])) ([68, 111, 109, 97, 105, 110, 61] ++ c.domain)) ++
    Lib.joinTail [59, 32] (sayIf c.hasMax ([77, 97, 120, 45, 65, 103, 101, 61] ++ Lib.itoa c.maxAge)) ++ Lib.joinTail [59, 32] (sayIf c.hasExp ([69, 120, 112, 105, 114, 101, 115, 61] ++ if isMom c.expires = true then writeOf c.expires 0 else [])) ++
    Lib.joinTail [59, 32] (sayIf c.secure (L ⟨#[83, 101, 99, 117, 114, 101]⟩)) ++ Lib.joinTail [59, 32] (sayIf c.http (L ⟨#[72, 116, 116, 112, 79, 110, 108, 121]⟩)) ++
    Lib.joinTail [59, 32] (sayIf (c.same == 1) (L ⟨#[83, 97, 109, 101, 83, 105, 116, 101, 61, 76, 97, 120]⟩)) ++ Lib.joinTail [59, 32] (sayIf (c.same == 2) (L ⟨#[83, 97, 109, 101, 83, 105, 116, 101, 61, 83, 116, 114, 105, 99, 116]⟩)) ++
    Lib.joinTail [59, 32] (sayIf (c.same == 3) (L ⟨#[83, 97, 109, 101, 83, 105, 116, 101, 61, 78, 111, 110, 101]⟩)) = textC c := by
  have e1 : sayIf (!decide (c.path = [])) ([80, 97, 116, 104, 61] ++ c.path) = sayIf (decide (c.path ≠ [])) (aPath c) := by rw [← decide_not]; rfl
  have e2 : sayIf (!decide (c.domain = [])) ([68, 111, 109, 97, 105, 110, 61] ++ c.domain) = sayIf (decide (c.domain ≠ [])) (aDomain c) := by rw [← decide_not]; rfl
  have e3 : sayIf c.hasMax ([77, 97, 120, 45, 65, 103, 101, 61] ++ Lib.itoa c.maxAge) = sayIf c.hasMax (aMax c) := rfl
  have e4 : sayIf c.hasExp ([69, 120, 112, 105, 114, 101, 115, 61] ++ if isMom c.expires = true then writeOf c.expires 0 else []) = sayIf c.hasExp (aExp c) := by
    cases hx : c.hasExp with
    | false => rfl
    | true =>
      rw [hx] at h5
      have hm : isMom c.expires = true := by simpa using h5
      rw [if_pos hm]; rfl
  have e5 : ∀ k : Int, (c.same == k) = decide (c.same = k) := fun k => by rw [Bool.eq_iff_iff]; simp
  rw [e1, e2, e3, e4, e5, e5, e5]
  unfold textC attrsC
  simp only [jt_append, List.append_assoc]
  rfl
structure FitC (c : SetC) : Prop where
  n : c.name.length ≤ 1073741824
  v : c.value.length ≤ 1073741824
  p : c.path.length ≤ 1073741824
  d : c.domain.length ≤ 1073741824
  m0 : -9223372036854775808 ≤ c.maxAge
  m1 : c.maxAge ≤ 9223372036854775807
  e0 : -9223372036854775808 ≤ c.expires
  e1 : c.expires ≤ 9223372036854775807
  s0 : -9223372036854775808 ≤ c.same
  s1 : c.same ≤ 9223372036854775807
def printSV (c : SetC) : Value := .tuple #[.string (bs (printSetC c)), .int .i64 (wrongC c)]
theorem printSV_bad {c : SetC} {k : Int} (h : wrongC c = k) (hk : k ≠ 0) : printSV c = .tuple #[.string ⟨#[]⟩, .int .i64 k] := by
  unfold printSV printSetC
  rw [h, if_neg hk]; rfl
theorem printSV_ok {c : SetC} (h : wrongC c = 0) : printSV c = .tuple #[.string (bs (textC c)), .int .i64 0] := by
  unfold printSV printSetC
  rw [h, if_pos rfl]
theorem empty_iff (l : List UInt8) : (bs l).toList.isEmpty = decide (l = []) := by rw [str_empty, L_bs]
theorem bad_bool {n v p d : List UInt8} {ma : Int} {hm : Bool} {ex : Int} {he sc ht : Bool} {sm : Int} : badC ⟨n, v, p, d, ma, hm, ex, he, sc, ht, sm⟩ ↔ ((!decide (p = []) && !pathC p) || (!decide (d = []) && !domC d) || (decide (ma < 0) || decide (34560000 < ma)) || (!hm && !decide (ma = 0)) || (!he && !decide (ex = 0)) || (he && !isMom ex) || (decide (sm < 0) || decide (3 < sm))) = true := by
  unfold badC
  simp only [Bool.or_eq_true, Bool.and_eq_true, Bool.not_eq_true', decide_eq_true_eq, decide_eq_false_iff_not, ne_eq]
  constructor
  · rintro (h | h | (h | h | h) | (h | h) | (h | h))
    all_goals simp [h]
  · rintro ((((((h | h) | (h | h)) | h) | h) | h) | (h | h))
    all_goals simp [h]
set_option maxRecDepth 100000 in
theorem printset_any (c : SetC) (w : World) (hE : EnvK w) (hf : FitC c) :
    Calls Tryz.prog 20 #[.agg (cellsS c).toArray] w fun e w' => e = .returned (printSV c) ∧ Below w.heap.size w w' := by
  have K1 := Lib.hid (CellsAt.first w (cellsS c) tS)
  have B1 := Lib.hid (below_put2 (w := w) (cs := (cellsS c).toArray) (T := tS))
  have E1 := Lib.hid (hE.alloc (.cells (cellsS c).toArray tS))
  have HR := Lib.hid (fun wx (h : EnvT wx) => right_any (bs c.name) (bs c.value) wx h (by rw [size_bs]; exact hf.n) (by rw [size_bs]; exact hf.v))
  have HP := Lib.hid (fun wx => ispath_any (bs c.path) wx (by unfold maxLen; rw [size_bs]; have := hf.p; omega))
  have HD := Lib.hid (fun wx => isdomain_any (bs c.domain) wx (by unfold maxLen; rw [size_bs]; have := hf.d; omega))
  have HW := Lib.hid (fun wx (h : EnvS wx) => print_any c.expires wx h)
  simp only [L_bs] at HR HP HD
  have hbad := @printSV_bad c
  have hok := @printSV_ok c
  obtain ⟨V, hV⟩ := name_it (printSV c)
  simp only [hV.out] at hbad hok
  rw [hV.out]
  have hw : wrongC c = if rightC c.name c.value = false then 160 else if badC c then 161 else 0 := rfl
  obtain ⟨n, v, p, d, ma, hm, ex, he, sc, ht, sm⟩ := c
  unfold cellsS at K1 B1 E1 ⊢
  simp only at *
  have f1 := hf.p
  have f3 := hf.n
  have f4 := hf.v
  have m0 := hf.m0
  have m1 := hf.m1
  have f2 := hf.d
  have hWR : writeV ex 0 = .tuple #[.string (bs (if isMom ex = true then writeOf ex 0 else [])), .int .i64 (if isMom ex = true then 0 else 40)] := by
    unfold writeV
    by_cases h : isMom ex = true
    · simp [h, okForm]
    · simp [h]
  rw [hWR] at HW
  obtain ⟨D, hD⟩ := name_it (if isMom ex = true then writeOf ex 0 else [])
  obtain ⟨Eo, hEo⟩ := name_it (if isMom ex = true then (0 : Int) else 40)
  rw [hD.out, hEo.out] at HW
  have ep := empty_iff p
  have ed := empty_iff d
  go_enter Tryz.func20, Tryz.ntmps20
  go_wp2_with fail
  generalize w.alloc _ = w1 at K1 B1 E1 ⊢
  refine (HR.out _ E1.out.t).mono ?_; rintro e w' ⟨rfl, rfl⟩
  have d0 := K1.out.at 0 _ rfl
  have d1 := K1.out.at 1 _ rfl
  have d2 := K1.out.at 2 _ rfl
  have d3 := K1.out.at 3 _ rfl
  have d4 := K1.out.at 4 _ rfl
  have d5 := K1.out.at 5 _ rfl
  have d6 := K1.out.at 6 _ rfl
  have d7 := K1.out.at 7 _ rfl
  have d8 := K1.out.at 8 _ rfl
  have d9 := K1.out.at 9 _ rfl
  have d10 := K1.out.at 10 _ rfl
  clear hWR
  cases hr : rightC n v with
  | false =>
    have HV := Lib.hid (hbad (k := 160) (by rw [hw, if_pos hr]) (by decide))
    clear hbad hok hw K1 E1 HR HP HD HW hE hf ep ed
    go_wp2_with fail
    go_ret2
    exact ⟨by rw [HV.out]; rfl, B1.out⟩
  | true =>
    go_wp2_with fail
    refine (HW.out _ E1.out.s).mono ?_; rintro e w2 ⟨rfl, hb2⟩
    have K2 := Lib.hid (K1.out.next hb2)
    have E2 := Lib.hid (E1.out.next hb2)
    have B2 := Lib.hid (B1.out.trans (hb2.mono B1.out.size))
    clear d0 d1 d2 d3 d4 d5 d6 d7 d8 d9 d10 K1 E1 B1 hb2 HW HR hE
    have d0 := K2.out.at 0 _ rfl
    have d1 := K2.out.at 1 _ rfl
    have d2 := K2.out.at 2 _ rfl
    have d3 := K2.out.at 3 _ rfl
    have d4 := K2.out.at 4 _ rfl
    have d5 := K2.out.at 5 _ rfl
    have d6 := K2.out.at 6 _ rfl
    have d7 := K2.out.at 7 _ rfl
    have d8 := K2.out.at 8 _ rfl
    have d9 := K2.out.at 9 _ rfl
    have d10 := K2.out.at 10 _ rfl
    have HBAD : Hid (((!decide (p = []) && !pathC p) || (!decide (d = []) && !domC d) || (decide (ma < 0) || decide (34560000 < ma)) || (!hm && !decide (ma = 0)) || (!he && !decide (ex = 0)) || (he && !isMom ex) || (decide (sm < 0) || decide (3 < sm))) = true → V = .tuple #[.string ⟨#[]⟩, .int .i64 161]) := by
      intro h
      refine hbad (k := 161) ?_ (by decide)
      rw [hw, if_neg (by rw [hr]; decide), if_pos (bad_bool.2 h)]
    have HOK : Hid (((!decide (p = []) && !pathC p) || (!decide (d = []) && !domC d) || (decide (ma < 0) || decide (34560000 < ma)) || (!hm && !decide (ma = 0)) || (!he && !decide (ex = 0)) || (he && !isMom ex) || (decide (sm < 0) || decide (3 < sm))) = false → V = .tuple #[.string (bs (textC ⟨n, v, p, d, ma, hm, ex, he, sc, ht, sm⟩)), .int .i64 0]) := by
      intro h
      refine hok ?_
      rw [hw, if_neg (by rw [hr]; decide), if_neg (fun hb => by rw [bad_bool.1 hb] at h; cases h)]
    clear hbad hok hw hV hf hr
    obtain ⟨X0, hX0⟩ := name_it (!decide (p = []) && !pathC p)
    obtain ⟨X1, hX1⟩ := name_it (!decide (d = []) && !domC d)
    obtain ⟨X2, hX2⟩ := name_it (decide (ma < 0) || decide (34560000 < ma))
    obtain ⟨X3, hX3⟩ := name_it (!hm && !decide (ma = 0))
    obtain ⟨X4, hX4⟩ := name_it (!he && !decide (ex = 0))
    obtain ⟨X5, hX5⟩ := name_it (he && !isMom ex)
    obtain ⟨X6, hX6⟩ := name_it (decide (sm < 0) || decide (3 < sm))
    rw [hX0.out, hX1.out, hX2.out, hX3.out, hX4.out, hX5.out, hX6.out] at HBAD HOK
    go_upto_region 4 with fail
    go_cut [20] (fun s wx => s = .bool X0 ∧ wx = w2)
    case first =>
      clear HBAD HOK
      by_cases gp : p = []
      · rw [decide_eq_true gp] at ep
        have hx : Hid (X0 = false) := by rw [← hX0.out, decide_eq_true gp]; rfl
        clear gp hX0
        go_wp2_with fail
        go_meet
        case rel => exact ⟨by rw [hx.out], rfl⟩
      · rw [decide_eq_false gp] at ep
        have hx : Hid (X0 = !pathC p) := by rw [← hX0.out, decide_eq_false gp]; rfl
        clear gp hX0
        go_wp2_with (go_at_call 49; refine (HP.out _).mono ?_; rintro e w' ⟨rfl, rfl⟩)
        go_meet
        case rel => exact ⟨by rw [hx.out], rfl⟩
    case rest =>
      obtain ⟨rfl, hwc⟩ := hcut
      rw [hwc]
      clear hwc
      cases X0 with
      | true =>
        have HV := Lib.hid (HBAD.out (by simp))
        clear HBAD HOK
        go_wp2_with fail
        go_ret2
        exact ⟨by rw [HV.out]; rfl, B2.out⟩
      | false =>
        go_upto_region 5 with fail
        go_cut [20] (fun s wx => s = .bool X1 ∧ wx = w2)
        case first =>
          clear HBAD HOK
          by_cases gp : d = []
          · rw [decide_eq_true gp] at ed
            have hx : Hid (X1 = false) := by rw [← hX1.out, decide_eq_true gp]; rfl
            clear gp hX1
            go_wp2_with fail
            go_meet
            case rel => exact ⟨by rw [hx.out], rfl⟩
          · rw [decide_eq_false gp] at ed
            have hx : Hid (X1 = !domC d) := by rw [← hX1.out, decide_eq_false gp]; rfl
            clear gp hX1
            go_wp2_with (go_at_call 50; refine (HD.out _).mono ?_; rintro e w' ⟨rfl, rfl⟩)
            go_meet
            case rel => exact ⟨by rw [hx.out], rfl⟩
        case rest =>
          obtain ⟨rfl, hwc⟩ := hcut
          rw [hwc]
          clear hwc
          cases X1 with
          | true =>
            have HV := Lib.hid (HBAD.out (by simp))
            clear HBAD HOK
            go_wp2_with fail
            go_ret2
            exact ⟨by rw [HV.out]; rfl, B2.out⟩
          | false =>
            go_upto_region 7 with fail
            go_cut [39] (fun s wx => s = .bool X2 ∧ wx = w2)
            case first =>
              clear HBAD HOK
              all_goals
                go_wp2_with fail
                all_goals (try (exfalso; omega))
                all_goals
                  go_meet
                  case rel => exact ⟨val_bool (by rw [← hX2.out]; first | rfl | (rw [Bool.eq_iff_iff]; simp; omega) | (simp; omega) | simp), rfl⟩
            case rest =>
              obtain ⟨rfl, hwc⟩ := hcut
              rw [hwc]
              clear hwc
              cases X2 with
              | true =>
                have HV := Lib.hid (HBAD.out (by simp))
                clear HBAD HOK
                go_wp2_with fail
                go_ret2
                exact ⟨by rw [HV.out]; rfl, B2.out⟩
              | false =>
                go_upto_region 8 with fail
                go_cut [39] (fun s wx => s = .bool X3 ∧ wx = w2)
                case first =>
                  clear HBAD HOK
                  cases hm
                  all_goals
                    go_wp2_with fail
                    all_goals (try (exfalso; omega))
                    all_goals
                      go_meet
                      case rel => exact ⟨val_bool (by rw [← hX3.out]; first | rfl | (rw [Bool.eq_iff_iff]; simp; omega) | (simp; omega) | simp), rfl⟩
                case rest =>
                  obtain ⟨rfl, hwc⟩ := hcut
                  rw [hwc]
                  clear hwc
                  cases X3 with
                  | true =>
                    have HV := Lib.hid (HBAD.out (by simp))
                    clear HBAD HOK
                    go_wp2_with fail
                    go_ret2
                    exact ⟨by rw [HV.out]; rfl, B2.out⟩
                  | false =>
                    go_upto_region 9 with fail
                    go_cut [39] (fun s wx => s = .bool X4 ∧ wx = w2)
                    case first =>
                      clear HBAD HOK
                      cases he
                      all_goals
                        go_wp2_with fail
                        all_goals (try (exfalso; omega))
                        all_goals
                          go_meet
                          case rel => exact ⟨val_bool (by rw [← hX4.out]; first | rfl | (rw [Bool.eq_iff_iff]; simp; omega) | (simp; omega) | simp), rfl⟩
                    case rest =>
                      obtain ⟨rfl, hwc⟩ := hcut
                      rw [hwc]
                      clear hwc
                      cases X4 with
                      | true =>
                        have HV := Lib.hid (HBAD.out (by simp))
                        clear HBAD HOK
                        go_wp2_with fail
                        go_ret2
                        exact ⟨by rw [HV.out]; rfl, B2.out⟩
                      | false =>
                        go_upto_region 10 with fail
                        go_cut [39] (fun s wx => s = .bool X5 ∧ wx = w2)
                        case first =>
                          clear HBAD HOK
                          cases he
                          all_goals cases hmo : isMom ex
                          all_goals
                            rw [hmo] at hX5
                            have hE5 := hEo.out
                            rw [hmo] at hE5
                            simp at hE5
                            subst hE5
                            go_wp2_with fail
                            all_goals (try (exfalso; omega))
                            all_goals
                              go_meet
                              case rel => exact ⟨val_bool (by rw [← hX5.out]; first | rfl | (rw [Bool.eq_iff_iff]; simp; omega) | (simp; omega) | simp), rfl⟩
                        case rest =>
                          obtain ⟨rfl, hwc⟩ := hcut
                          rw [hwc]
                          clear hwc
                          cases X5 with
                          | true =>
                            have HV := Lib.hid (HBAD.out (by simp))
                            clear HBAD HOK
                            go_wp2_with fail
                            go_ret2
                            exact ⟨by rw [HV.out]; rfl, B2.out⟩
                          | false =>
                            go_upto_region 12 with fail
                            go_cut [70] (fun s wx => s = .bool X6 ∧ wx = w2)
                            case first =>
                              clear HBAD HOK
                              all_goals
                                go_wp2_with fail
                                all_goals (try (exfalso; omega))
                                all_goals
                                  go_meet
                                  case rel => exact ⟨val_bool (by rw [← hX6.out]; first | rfl | (rw [Bool.eq_iff_iff]; simp; omega) | (simp; omega) | simp), rfl⟩
                            case rest =>
                              obtain ⟨rfl, hwc⟩ := hcut
                              rw [hwc]
                              clear hwc
                              cases X6 with
                              | true =>
                                have HV := Lib.hid (HBAD.out (by simp))
                                clear HBAD HOK
                                go_wp2_with fail
                                go_ret2
                                exact ⟨by rw [HV.out]; rfl, B2.out⟩
                              | false =>
                                have HV := Lib.hid (HOK.out (by simp))
                                clear HBAD HOK
                                have hen := empty_iff p
                                have q5 := hX5.out
                                have q6 := hX6.out
                                clear hX0 hX1 hX2 hX3 hX4 hX5 hX6 HP HD
                                have HX0 : Hid (bs n ++ ⟨#[61]⟩ ++ bs v = bs (eqC (n, v))) := by
                                  have h1 : bs n ++ (⟨#[61]⟩ : ByteArray) = bs (n ++ [61]) := bs_append n [61]
                                  unfold Hid; rw [h1, bs_append]; unfold eqC; simp
                                go_upto_region 15 with fail
                                all_goals (try (exfalso; simp only [size_bs] at *; omega))
                                rw [HX0.out]
                                have C0 := Lib.hid (CellsAt.first w2 [.string (bs (eqC (n, v)))] 9)
                                have B3 := below_put2 (w := w2) (cs := #[.string (bs (eqC (n, v)))]) (T := 9)
                                have K := Lib.hid (K2.out.next B3)
                                have E3 := Lib.hid (E2.out.next B3)
                                have B := Lib.hid (B2.out.trans (B3.mono B2.out.size))
                                have C : Hid (CellsAt (w2.alloc (.cells #[.string (bs (eqC (n, v)))] 9)) w2.heap.size [.string (bs (eqC (n, v)))]) := C0
                                have GO := Lib.hid K2.out.lt
                                have GE : Hid (9 ≤ w2.heap.size) := E2.out.t.n
                                clear C0 B3 K2 E2 B2 d0 d1 d2 d3 d4 d5 d6 d7 d8 d9 d10
                                generalize w2.alloc _ = w3 at C K E3 B ⊢
                                obtain ⟨o, ho⟩ : ∃ o, o = w2.heap.size := ⟨_, rfl⟩
                                rw [← ho] at C GO GE
                                rw [← ho]
                                clear ho
                                have hx0 : (eqC (n, v)).length ≤ 2147483650 := by unfold eqC; simp; omega
                                obtain ⟨c, hc⟩ := name_it (⟨n, v, p, d, ma, hm, ex, he, sc, ht, sm⟩ : SetC)
                                rw [hc.out] at HV
                                obtain ⟨Y0, hY0⟩ := name_it (eqC (n, v))
                                rw [hY0.out] at C hx0
                                have lD : D.length ≤ 100 := by rw [← hD.out]; split; exact date_len _; exact Nat.zero_le _
                                have lI := Lib.itoa_length_le ma (by omega) (by omega)
                                have HIT := Lib.hid (fun wx (h : EnvS wx) => itoa_any ma wx h (by omega) (by omega))
                                obtain ⟨I, hI⟩ := name_it (Lib.itoa ma)
                                rw [hI.out] at HIT lI
                                have d2 := K.out.at 2 _ rfl
                                obtain ⟨T0, hT⟩ := name_it ([80, 97, 116, 104, 61] ++ p)
                                have hTe : Hid ((⟨#[80, 97, 116, 104, 61]⟩ ++ bs p : ByteArray) = bs T0) := by rw [← hT.out]; exact bs_append [80, 97, 116, 104, 61] p
                                have hTl : T0.length = 5 + p.length := by rw [← hT.out]; simp; omega
                                have SAY := Lib.hid (fun wx (h : CellsAt wx o [.string (bs Y0)]) => say_any o (!decide (p = [])) Y0 (bs T0) wx h (by omega) (by rw [size_bs]; omega))
                                rw [L_bs] at SAY
                                go_wp2_with fail
                                all_goals (try (exfalso; simp only [size_bs] at *; omega))
                                rw [hTe.out]
                                refine (SAY.out _ C.out).mono ?_; rintro e w4 ⟨rfl, hc4, hk4⟩
                                have B' := Lib.hid (B.out.trans (hk4.below (B := w.heap.size) (fun i hi h => by have := GO.out; omega) B.out.size))
                                have K' := Lib.hid (K.out.keeps hk4 (by have := GO.out; omega))
                                have E4 := Lib.hid (E3.out.below (hk4.below (B := o) (fun i hi h => by omega) (Nat.le_of_lt C.out.lt)) GE.out)
                                have C' := Lib.hid hc4
                                clear B K C SAY hTe hc4 hk4 d2
                                have B := B'
                                have K := K'
                                have C := C'
                                clear B' K' C'
                                have hl := say_len Y0 (!decide (p = [])) T0
                                obtain ⟨Y1, hY1⟩ := name_it (Y0 ++ Lib.joinTail [59, 32] (sayIf (!decide (p = [])) T0))
                                rw [hY1.out] at C hl
                                rw [← hT.out] at hY1
                                have hx1 : Y1.length ≤ 3347483850 := by omega
                                clear hT hTl hl
                                have d3 := K.out.at 3 _ rfl
                                obtain ⟨T1, hT⟩ := name_it ([68, 111, 109, 97, 105, 110, 61] ++ d)
                                have hTe : Hid ((⟨#[68, 111, 109, 97, 105, 110, 61]⟩ ++ bs d : ByteArray) = bs T1) := by rw [← hT.out]; exact bs_append [68, 111, 109, 97, 105, 110, 61] d
                                have hTl : T1.length = 7 + d.length := by rw [← hT.out]; simp; omega
                                have SAY := Lib.hid (fun wx (h : CellsAt wx o [.string (bs Y1)]) => say_any o (!decide (d = [])) Y1 (bs T1) wx h (by omega) (by rw [size_bs]; omega))
                                rw [L_bs] at SAY
                                go_wp2_with fail
                                all_goals (try (exfalso; simp only [size_bs] at *; omega))
                                rw [hTe.out]
                                refine (SAY.out _ C.out).mono ?_; rintro e w5 ⟨rfl, hc5, hk5⟩
                                have B' := Lib.hid (B.out.trans (hk5.below (B := w.heap.size) (fun i hi h => by have := GO.out; omega) B.out.size))
                                have K' := Lib.hid (K.out.keeps hk5 (by have := GO.out; omega))
                                have E5 := Lib.hid (E4.out.below (hk5.below (B := o) (fun i hi h => by omega) (Nat.le_of_lt C.out.lt)) GE.out)
                                have C' := Lib.hid hc5
                                clear B K C SAY hTe hc5 hk5 d3
                                have B := B'
                                have K := K'
                                have C := C'
                                clear B' K' C'
                                have hl := say_len Y1 (!decide (d = [])) T1
                                obtain ⟨Y2, hY2⟩ := name_it (Y1 ++ Lib.joinTail [59, 32] (sayIf (!decide (d = [])) T1))
                                rw [hY2.out] at C hl
                                rw [← hT.out] at hY2
                                have hx2 : Y2.length ≤ 4547484050 := by omega
                                clear hT hTl hl
                                have d5 := K.out.at 5 _ rfl
                                have d4 := K.out.at 4 _ rfl
                                obtain ⟨T2, hT⟩ := name_it ([77, 97, 120, 45, 65, 103, 101, 61] ++ I)
                                have hTe : Hid ((⟨#[77, 97, 120, 45, 65, 103, 101, 61]⟩ ++ bs I : ByteArray) = bs T2) := by rw [← hT.out]; exact bs_append [77, 97, 120, 45, 65, 103, 101, 61] I
                                have hTl : T2.length = 8 + I.length := by rw [← hT.out]; simp; omega
                                have SAY := Lib.hid (fun wx (h : CellsAt wx o [.string (bs Y2)]) => say_any o hm Y2 (bs T2) wx h (by omega) (by rw [size_bs]; omega))
                                rw [L_bs] at SAY
                                go_upto_region 18 with fail
                                go_cut [] (fun wx => CellsAt wx o [.string (bs (Y2 ++ Lib.joinTail [59, 32] (sayIf hm T2)))] ∧ Keeps (fun i => i = o) w5 wx)
                                case first =>
                                  have bd := (Below.refl w5.heap.size w5).drew
                                  have E5d := Lib.hid (E5.out.next bd)
                                  have Cd := Lib.hid (C.out.next bd)
                                  have Kd := Lib.hid (K.out.next bd)
                                  have Pd := Lib.hid (Keeps.of (S := fun i => i = o) bd (Nat.le_refl _))
                                  clear bd
                                  have hadd : ¬ 9223372036854775807 < 8 + (bs I).size := by rw [size_bs]; omega
                                  go_region_held3 (fun W => W.cell? ⟨w.heap.size, 5, none⟩ = some (.bool hm) ∧ W.cell? ⟨w.heap.size, 4, none⟩ = some (.int .i64 ma))
                                    (first | go_keep | exact ⟨(Kd.out.next hbI).at 5 _ rfl, (Kd.out.next hbI).at 4 _ rfl⟩ | exact ⟨((Kd.out.next hbI).keeps hkI (by have := GO.out; omega)).at 5 _ rfl, ((Kd.out.next hbI).keeps hkI (by have := GO.out; omega)).at 4 _ rfl⟩)
                                    (first | (go_at_call 52; refine (HIT.out _ E5d.out.s).mono ?_; rintro e wI ⟨rfl, hbI⟩) | (go_at_call 51; rw [hTe.out]; refine (SAY.out _ (Cd.out.next hbI)).mono ?_; rintro e wJ ⟨rfl, hcI, hkI⟩))
                                  go_wp2_with fail
                                  go_meet
                                  case rel => exact ⟨hcI, (Pd.out.trans (Keeps.of hbI (Nat.le_refl _))).trans hkI⟩
                                case rest =>
                                obtain ⟨hc6, hk6⟩ := hcut
                                have B' := Lib.hid (B.out.trans (hk6.below (B := w.heap.size) (fun i hi h => by have := GO.out; omega) B.out.size))
                                have K' := Lib.hid (K.out.keeps hk6 (by have := GO.out; omega))
                                have C' := Lib.hid hc6
                                clear B K C SAY hTe hc6 hk6 d5 d4
                                have B := B'
                                have K := K'
                                have C := C'
                                clear B' K' C'
                                have hl := say_len Y2 hm T2
                                obtain ⟨Y3, hY3⟩ := name_it (Y2 ++ Lib.joinTail [59, 32] (sayIf hm T2))
                                rw [hY3.out] at C hl
                                rw [← hT.out] at hY3
                                have hx3 : Y3.length ≤ 4547484250 := by omega
                                clear hT hTl hl
                                have d7 := K.out.at 7 _ rfl
                                obtain ⟨T3, hT⟩ := name_it ([69, 120, 112, 105, 114, 101, 115, 61] ++ D)
                                have hTe : Hid ((⟨#[69, 120, 112, 105, 114, 101, 115, 61]⟩ ++ bs D : ByteArray) = bs T3) := by rw [← hT.out]; exact bs_append [69, 120, 112, 105, 114, 101, 115, 61] D
                                have hTl : T3.length = 8 + D.length := by rw [← hT.out]; simp; omega
                                have SAY := Lib.hid (fun wx (h : CellsAt wx o [.string (bs Y3)]) => say_any o he Y3 (bs T3) wx h (by omega) (by rw [size_bs]; omega))
                                rw [L_bs] at SAY
                                go_wp2_with fail
                                all_goals (try (exfalso; simp only [size_bs] at *; omega))
                                rw [hTe.out]
                                refine (SAY.out _ C.out).mono ?_; rintro e w7 ⟨rfl, hc7, hk7⟩
                                have B' := Lib.hid (B.out.trans (hk7.below (B := w.heap.size) (fun i hi h => by have := GO.out; omega) B.out.size))
                                have K' := Lib.hid (K.out.keeps hk7 (by have := GO.out; omega))
                                have C' := Lib.hid hc7
                                clear B K C SAY hTe hc7 hk7 d7
                                have B := B'
                                have K := K'
                                have C := C'
                                clear B' K' C'
                                have hl := say_len Y3 he T3
                                obtain ⟨Y4, hY4⟩ := name_it (Y3 ++ Lib.joinTail [59, 32] (sayIf he T3))
                                rw [hY4.out] at C hl
                                rw [← hT.out] at hY4
                                have hx4 : Y4.length ≤ 4547484450 := by omega
                                clear hT hTl hl
                                have d8 := K.out.at 8 _ rfl
                                obtain ⟨T4, hT⟩ := name_it (L ⟨#[83, 101, 99, 117, 114, 101]⟩)
                                have hTe : Hid ((⟨#[83, 101, 99, 117, 114, 101]⟩ : ByteArray) = bs T4) := by rw [← hT.out]; exact (bs_L _).symm
                                have hTl : T4.length ≤ 20 := by rw [← hT.out]; decide
                                have SAY := Lib.hid (fun wx (h : CellsAt wx o [.string (bs Y4)]) => say_any o sc Y4 (bs T4) wx h (by omega) (by rw [size_bs]; omega))
                                rw [L_bs] at SAY
                                go_wp2_with fail
                                all_goals (try (exfalso; simp only [size_bs] at *; omega))
                                rw [hTe.out]
                                refine (SAY.out _ C.out).mono ?_; rintro e w8 ⟨rfl, hc8, hk8⟩
                                have B' := Lib.hid (B.out.trans (hk8.below (B := w.heap.size) (fun i hi h => by have := GO.out; omega) B.out.size))
                                have K' := Lib.hid (K.out.keeps hk8 (by have := GO.out; omega))
                                have C' := Lib.hid hc8
                                clear B K C SAY hTe hc8 hk8 d8
                                have B := B'
                                have K := K'
                                have C := C'
                                clear B' K' C'
                                have hl := say_len Y4 sc T4
                                obtain ⟨Y5, hY5⟩ := name_it (Y4 ++ Lib.joinTail [59, 32] (sayIf sc T4))
                                rw [hY5.out] at C hl
                                rw [← hT.out] at hY5
                                have hx5 : Y5.length ≤ 4547484650 := by omega
                                clear hT hTl hl
                                have d9 := K.out.at 9 _ rfl
                                obtain ⟨T5, hT⟩ := name_it (L ⟨#[72, 116, 116, 112, 79, 110, 108, 121]⟩)
                                have hTe : Hid ((⟨#[72, 116, 116, 112, 79, 110, 108, 121]⟩ : ByteArray) = bs T5) := by rw [← hT.out]; exact (bs_L _).symm
                                have hTl : T5.length ≤ 20 := by rw [← hT.out]; decide
                                have SAY := Lib.hid (fun wx (h : CellsAt wx o [.string (bs Y5)]) => say_any o ht Y5 (bs T5) wx h (by omega) (by rw [size_bs]; omega))
                                rw [L_bs] at SAY
                                go_wp2_with fail
                                all_goals (try (exfalso; simp only [size_bs] at *; omega))
                                rw [hTe.out]
                                refine (SAY.out _ C.out).mono ?_; rintro e w9 ⟨rfl, hc9, hk9⟩
                                have B' := Lib.hid (B.out.trans (hk9.below (B := w.heap.size) (fun i hi h => by have := GO.out; omega) B.out.size))
                                have K' := Lib.hid (K.out.keeps hk9 (by have := GO.out; omega))
                                have C' := Lib.hid hc9
                                clear B K C SAY hTe hc9 hk9 d9
                                have B := B'
                                have K := K'
                                have C := C'
                                clear B' K' C'
                                have hl := say_len Y5 ht T5
                                obtain ⟨Y6, hY6⟩ := name_it (Y5 ++ Lib.joinTail [59, 32] (sayIf ht T5))
                                rw [hY6.out] at C hl
                                rw [← hT.out] at hY6
                                have hx6 : Y6.length ≤ 4547484850 := by omega
                                clear hT hTl hl
                                have d10 := K.out.at 10 _ rfl
                                obtain ⟨T6, hT⟩ := name_it (L ⟨#[83, 97, 109, 101, 83, 105, 116, 101, 61, 76, 97, 120]⟩)
                                have hTe : Hid ((⟨#[83, 97, 109, 101, 83, 105, 116, 101, 61, 76, 97, 120]⟩ : ByteArray) = bs T6) := by rw [← hT.out]; exact (bs_L _).symm
                                have hTl : T6.length ≤ 20 := by rw [← hT.out]; decide
                                have SAY := Lib.hid (fun wx (h : CellsAt wx o [.string (bs Y6)]) => say_any o (sm == 1) Y6 (bs T6) wx h (by omega) (by rw [size_bs]; omega))
                                rw [L_bs] at SAY
                                go_wp2_with fail
                                all_goals (try (exfalso; simp only [size_bs] at *; omega))
                                rw [hTe.out]
                                refine (SAY.out _ C.out).mono ?_; rintro e w10 ⟨rfl, hc10, hk10⟩
                                have B' := Lib.hid (B.out.trans (hk10.below (B := w.heap.size) (fun i hi h => by have := GO.out; omega) B.out.size))
                                have K' := Lib.hid (K.out.keeps hk10 (by have := GO.out; omega))
                                have C' := Lib.hid hc10
                                clear B K C SAY hTe hc10 hk10 d10
                                have B := B'
                                have K := K'
                                have C := C'
                                clear B' K' C'
                                have hl := say_len Y6 (sm == 1) T6
                                obtain ⟨Y7, hY7⟩ := name_it (Y6 ++ Lib.joinTail [59, 32] (sayIf (sm == 1) T6))
                                rw [hY7.out] at C hl
                                rw [← hT.out] at hY7
                                have hx7 : Y7.length ≤ 4547485050 := by omega
                                clear hT hTl hl
                                have d10 := K.out.at 10 _ rfl
                                obtain ⟨T7, hT⟩ := name_it (L ⟨#[83, 97, 109, 101, 83, 105, 116, 101, 61, 83, 116, 114, 105, 99, 116]⟩)
                                have hTe : Hid ((⟨#[83, 97, 109, 101, 83, 105, 116, 101, 61, 83, 116, 114, 105, 99, 116]⟩ : ByteArray) = bs T7) := by rw [← hT.out]; exact (bs_L _).symm
                                have hTl : T7.length ≤ 20 := by rw [← hT.out]; decide
                                have SAY := Lib.hid (fun wx (h : CellsAt wx o [.string (bs Y7)]) => say_any o (sm == 2) Y7 (bs T7) wx h (by omega) (by rw [size_bs]; omega))
                                rw [L_bs] at SAY
                                go_wp2_with fail
                                all_goals (try (exfalso; simp only [size_bs] at *; omega))
                                rw [hTe.out]
                                refine (SAY.out _ C.out).mono ?_; rintro e w11 ⟨rfl, hc11, hk11⟩
                                have B' := Lib.hid (B.out.trans (hk11.below (B := w.heap.size) (fun i hi h => by have := GO.out; omega) B.out.size))
                                have K' := Lib.hid (K.out.keeps hk11 (by have := GO.out; omega))
                                have C' := Lib.hid hc11
                                clear B K C SAY hTe hc11 hk11 d10
                                have B := B'
                                have K := K'
                                have C := C'
                                clear B' K' C'
                                have hl := say_len Y7 (sm == 2) T7
                                obtain ⟨Y8, hY8⟩ := name_it (Y7 ++ Lib.joinTail [59, 32] (sayIf (sm == 2) T7))
                                rw [hY8.out] at C hl
                                rw [← hT.out] at hY8
                                have hx8 : Y8.length ≤ 4547485250 := by omega
                                clear hT hTl hl
                                have d10 := K.out.at 10 _ rfl
                                obtain ⟨T8, hT⟩ := name_it (L ⟨#[83, 97, 109, 101, 83, 105, 116, 101, 61, 78, 111, 110, 101]⟩)
                                have hTe : Hid ((⟨#[83, 97, 109, 101, 83, 105, 116, 101, 61, 78, 111, 110, 101]⟩ : ByteArray) = bs T8) := by rw [← hT.out]; exact (bs_L _).symm
                                have hTl : T8.length ≤ 20 := by rw [← hT.out]; decide
                                have SAY := Lib.hid (fun wx (h : CellsAt wx o [.string (bs Y8)]) => say_any o (sm == 3) Y8 (bs T8) wx h (by omega) (by rw [size_bs]; omega))
                                rw [L_bs] at SAY
                                go_wp2_with fail
                                all_goals (try (exfalso; simp only [size_bs] at *; omega))
                                rw [hTe.out]
                                refine (SAY.out _ C.out).mono ?_; rintro e w12 ⟨rfl, hc12, hk12⟩
                                have B' := Lib.hid (B.out.trans (hk12.below (B := w.heap.size) (fun i hi h => by have := GO.out; omega) B.out.size))
                                have K' := Lib.hid (K.out.keeps hk12 (by have := GO.out; omega))
                                have C' := Lib.hid hc12
                                clear B K C SAY hTe hc12 hk12 d10
                                have B := B'
                                have K := K'
                                have C := C'
                                clear B' K' C'
                                have hl := say_len Y8 (sm == 3) T8
                                obtain ⟨Y9, hY9⟩ := name_it (Y8 ++ Lib.joinTail [59, 32] (sayIf (sm == 3) T8))
                                rw [hY9.out] at C hl
                                rw [← hT.out] at hY9
                                have hx9 : Y9.length ≤ 4547485450 := by omega
                                clear hT hTl hl
                                have z := C.out.at 0 _ rfl
                                go_wp2_with fail
                                have HE : Hid (textC c = Y9) := by
                                  have h := text_chain c (by rw [← hc.out]; exact q5)
                                  rw [← hc.out] at h ⊢
                                  rw [← h]
                                  simp only [hY0.out, hI.out, hD.out]
                                  rw [hY1.out]
                                  rw [hY2.out]
                                  rw [hY3.out]
                                  rw [hY4.out]
                                  rw [hY5.out]
                                  rw [hY6.out]
                                  rw [hY7.out]
                                  rw [hY8.out]
                                  rw [hY9.out]
                                  exact rfl
                                go_ret2
                                exact ⟨by rw [HV.out, HE.out]; rfl, B.out⟩
end Go.Proofs.YtkenianfpfamcaaGreatDoor
