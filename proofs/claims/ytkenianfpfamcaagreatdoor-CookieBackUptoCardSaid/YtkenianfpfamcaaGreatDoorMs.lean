/- Contract of the document's PrintSet: what a server sets, as text. The law's set: a cookie as the document has it. The law's CookieSays. -/
import Derived.Test.YtkenianfpfamcaaGreatDoorMr
import Derived.Test.YtkenianfpfamcaaGreatDoorMa
import Derived.Test.YtkenianfpfamcaaGreatDoorMe
import Derived.Test.YtkenianfpfamcaaGreatDoorCookWJ
import Derived.Test.YtkenianfpfamcaaGreatDoorCookVJ
import Derived.Test.YtkenianfpfamcaaGreatDoorMo
namespace Go.Proofs.YtkenianfpfamcaaGreatDoor
open Go Go.RowKit
set_option maxHeartbeats 8000000

theorem writeV_ok0 {m : Int} (hm : isMom m = true) : writeV m 0 = .tuple #[.string (bs (writeOf m 0)), .int .i64 0] := by
  unfold writeV; simp [hm, okForm]
set_option maxRecDepth 100000 in
theorem rprintset_any (c : SetC) (w : World) (hf : FitC c) :
    Calls Tryz.prog 23 #[.agg (cellsS c).toArray] w fun e w' => e = .returned (printSV c) ∧ Below w.heap.size w w' := by
  have K1 := Lib.hid (CellsAt.first w (cellsS c) tRS)
  have B1 := Lib.hid (below_put2 (w := w) (cs := (cellsS c).toArray) (T := tRS))
  have HW := Lib.hid (fun wx => rwrong_any c wx hf)
  have HDG := Lib.hid (fun wx => rdigits_any c.maxAge wx hf.m0 hf.m1)
  have HWR := Lib.hid (fun wx => rwrite_any c.expires 0 wx)
  have lI := Lib.itoa_length_le c.maxAge hf.m0 hf.m1
  have hbad := fun h => @printSV_bad c (wrongC c) rfl h
  have hok := @printSV_ok c
  have hwp := @wrong_parts c
  obtain ⟨V, hV⟩ := name_it (printSV c)
  simp only [hV.out] at hbad hok
  rw [hV.out]
  have hcw : ∀ k, wrongC c = k → badC c → k ≠ 0 := by
    intro k h hb
    unfold wrongC at h
    rw [if_pos hb] at h
    split at h <;> (rw [← h]; decide)
  have f1 := hf.p
  have f2 := hf.d
  have f3 := hf.n
  have f4 := hf.v
  have htc := text_chain c
  obtain ⟨WR, hWR⟩ := name_it (wrongC c)
  rw [hWR.out] at HW hbad hok hwp hcw
  obtain ⟨n, v, p, d, ma, hm, ex, he, sc, ht, sm⟩ := c
  unfold cellsS at K1 B1 HW ⊢
  simp only at *
  clear hV hf hWR
  go_enter Tryz.func23, Tryz.ntmps23
  go_wp2_with fail
  generalize w.alloc _ = w1 at K1 B1 ⊢
  have d0 := K1.out.at 0 _ rfl
  have d1 := K1.out.at 1 _ rfl
  have d2 := K1.out.at 2 _ rfl
  have d3 := K1.out.at 3 _ rfl
  have d4 := K1.out.at 4 _ rfl
  have d5 := K1.out.at 5 _ rfl
  have d6 := K1.out.at 6 _ rfl
  have d7 := K1.out.at 7 _ rfl
  have d8 := K1.out.at 8 _ rfl
  have d9 := K1.out.at 9 _ rfl
  have d10 := K1.out.at 10 _ rfl
  try (go_wp2_with fail)
  refine (HW.out _).mono ?_; rintro e w2 ⟨rfl, hb2⟩
  have K := Lib.hid (K1.out.next hb2)
  have B := Lib.hid (B1.out.trans (hb2.mono B1.out.size))
  have GL := Lib.hid K.out.lt
  clear d0 d1 d2 d3 d4 d5 d6 d7 d8 d9 d10 K1 B1 hb2 HW
  by_cases hw0 : WR = 0
  · subst hw0
    have HV := Lib.hid (hok rfl)
    obtain ⟨-, -, -, -, ⟨h6, -⟩, h8, h9⟩ := hwp rfl
    have h5 : (he && !isMom ex) = false := by
      cases he
      · rfl
      · rw [h6 rfl]; rfl
    have HTC := Lib.hid (htc h5)
    have HEX : Hid (he = true → isMom ex = true) := h6
    clear hbad hok hwp hcw htc h5 h6
    have HX0 : Hid (bs n ++ ⟨#[61]⟩ ++ bs v = bs (eqC (n, v))) := by
      have h1 : bs n ++ (⟨#[61]⟩ : ByteArray) = bs (n ++ [61]) := bs_append n [61]
      unfold Hid; rw [h1, bs_append]; unfold eqC; simp
    have hx : (eqC (n, v)).length ≤ 2147483650 := by unfold eqC; simp; omega
    have d0 := K.out.at 0 _ rfl
    have d1 := K.out.at 1 _ rfl
    go_upto_region 5 with fail
    all_goals (try (exfalso; simp only [size_bs] at *; omega))
    rw [HX0.out]
    clear d0 d1 HX0
    obtain ⟨Y0, hY0⟩ := name_it (eqC (n, v))
    rw [hY0.out] at HTC hx ⊢
    clear hY0
    have ep := empty_iff p
    have ed := empty_iff d
    obtain ⟨PE, hPE⟩ := name_it (decide (p = []))
    obtain ⟨DE, hDE⟩ := name_it (decide (d = []))
    rw [hPE.out] at ep HTC
    rw [hDE.out] at ed HTC
    clear hPE hDE
    obtain ⟨I, hI⟩ := name_it (Lib.itoa ma)
    rw [hI.out] at HDG lI HTC
    clear hI
    have hl := say_len Y0 (!PE) ([80, 97, 116, 104, 61] ++ p)
    obtain ⟨Y1, hY1⟩ := name_it (Y0 ++ Lib.joinTail [59, 32] (sayIf (!PE) ([80, 97, 116, 104, 61] ++ p)))
    rw [hY1.out] at HTC hl
    have hlt : ([80, 97, 116, 104, 61] ++ p).length ≤ 1073741900 := by simp; omega
    have hx1 : Y1.length ≤ 3221225552 := by omega
    clear hlt hl
    have d2 := K.out.at 2 _ rfl
    go_upto_if 21 with fail
    go_cut [5] (fun s wx => s = .string (bs Y1) ∧ Hid (CellsAt wx w.heap.size [.string (bs n), .string (bs v), .string (bs p), .string (bs d), .int .i64 ma, .bool hm, .int .i64 ex, .bool he, .bool sc, .bool ht, .int .i64 sm]) ∧ Hid (Below w.heap.size w wx))
    case first =>
      clear HTC
      rw [jt_say] at hY1
      cases PE with
      | true =>
        have HE : Hid (Y1 = Y0) := by rw [← hY1.out, if_neg (by decide)]; rfl
        clear hY1
        go_wp2_with fail
        go_meet
        case rel => exact ⟨by rw [HE.out], K, B⟩
      | false =>
        have HE : Hid (bs Y1 = bs Y0 ++ (⟨#[59, 32, 80, 97, 116, 104, 61]⟩ ++ bs p)) := by
          rw [← hY1.out, if_pos (by decide)]; unfold Hid
          have h1 : (⟨#[59, 32, 80, 97, 116, 104, 61]⟩ : ByteArray) ++ bs p = bs ([59, 32, 80, 97, 116, 104, 61] ++ p) := bs_append [59, 32, 80, 97, 116, 104, 61] p
          rw [h1, bs_append]; rfl
        clear hY1
        go_wp2_with fail
        all_goals (try (exfalso; simp only [size_bs] at *; omega))
        go_meet
        case rel => exact ⟨by rw [HE.out], K, B⟩
    case rest =>
      obtain ⟨rfl, K, B⟩ := hcut
      clear hY1
      clear d2
      have hl := say_len Y1 (!DE) ([68, 111, 109, 97, 105, 110, 61] ++ d)
      obtain ⟨Y2, hY2⟩ := name_it (Y1 ++ Lib.joinTail [59, 32] (sayIf (!DE) ([68, 111, 109, 97, 105, 110, 61] ++ d)))
      rw [hY2.out] at HTC hl
      have hlt : ([68, 111, 109, 97, 105, 110, 61] ++ d).length ≤ 1073741900 := by simp; omega
      have hx2 : Y2.length ≤ 4294967454 := by omega
      clear hlt hl
      have d3 := K.out.at 3 _ rfl
      go_upto_if 29 with fail
      go_cut [5] (fun s wx => s = .string (bs Y2) ∧ Hid (CellsAt wx w.heap.size [.string (bs n), .string (bs v), .string (bs p), .string (bs d), .int .i64 ma, .bool hm, .int .i64 ex, .bool he, .bool sc, .bool ht, .int .i64 sm]) ∧ Hid (Below w.heap.size w wx))
      case first =>
        clear HTC
        rw [jt_say] at hY2
        cases DE with
        | true =>
          have HE : Hid (Y2 = Y1) := by rw [← hY2.out, if_neg (by decide)]; rfl
          clear hY2
          go_wp2_with fail
          go_meet
          case rel => exact ⟨by rw [HE.out], K, B⟩
        | false =>
          have HE : Hid (bs Y2 = bs Y1 ++ (⟨#[59, 32, 68, 111, 109, 97, 105, 110, 61]⟩ ++ bs d)) := by
            rw [← hY2.out, if_pos (by decide)]; unfold Hid
            have h1 : (⟨#[59, 32, 68, 111, 109, 97, 105, 110, 61]⟩ : ByteArray) ++ bs d = bs ([59, 32, 68, 111, 109, 97, 105, 110, 61] ++ d) := bs_append [59, 32, 68, 111, 109, 97, 105, 110, 61] d
            rw [h1, bs_append]; rfl
          clear hY2
          go_wp2_with fail
          all_goals (try (exfalso; simp only [size_bs] at *; omega))
          go_meet
          case rel => exact ⟨by rw [HE.out], K, B⟩
      case rest =>
        obtain ⟨rfl, K, B⟩ := hcut
        clear hY2
        clear d3
        have hl := say_len Y2 (hm) ([77, 97, 120, 45, 65, 103, 101, 61] ++ I)
        obtain ⟨Y3, hY3⟩ := name_it (Y2 ++ Lib.joinTail [59, 32] (sayIf (hm) ([77, 97, 120, 45, 65, 103, 101, 61] ++ I)))
        rw [hY3.out] at HTC hl
        have hlt : ([77, 97, 120, 45, 65, 103, 101, 61] ++ I).length ≤ 1073741900 := by simp; omega
        have hx3 : Y3.length ≤ 5368709356 := by omega
        clear hlt hl
        have d4 := K.out.at 4 _ rfl
        have d5 := K.out.at 5 _ rfl
        go_upto_if 36 with fail
        go_cut [5] (fun s wx => s = .string (bs Y3) ∧ Hid (CellsAt wx w.heap.size [.string (bs n), .string (bs v), .string (bs p), .string (bs d), .int .i64 ma, .bool hm, .int .i64 ex, .bool he, .bool sc, .bool ht, .int .i64 sm]) ∧ Hid (Below w.heap.size w wx))
        case first =>
          clear HTC
          rw [jt_say] at hY3
          cases hm with
          | false =>
            have HE : Hid (Y3 = Y2) := by rw [← hY3.out, if_neg (by decide)]; rfl
            clear hY3
            go_wp2_with fail
            go_meet
            case rel => exact ⟨by rw [HE.out], K, B⟩
          | true =>
            have HE : Hid (bs Y3 = bs Y2 ++ (⟨#[59, 32, 77, 97, 120, 45, 65, 103, 101, 61]⟩ ++ bs I)) := by
              rw [← hY3.out, if_pos (by decide)]; unfold Hid
              have h1 : (⟨#[59, 32, 77, 97, 120, 45, 65, 103, 101, 61]⟩ : ByteArray) ++ bs I = bs ([59, 32, 77, 97, 120, 45, 65, 103, 101, 61] ++ I) := bs_append [59, 32, 77, 97, 120, 45, 65, 103, 101, 61] I
              rw [h1, bs_append]; rfl
            clear hY3
            go_wp2_with fail
            refine (HDG.out _).mono ?_; rintro e w9 ⟨rfl, hb9⟩
            have K9 := Lib.hid (K.out.next hb9)
            have B9 := Lib.hid (B.out.trans (hb9.mono B.out.size))
            clear hb9
            go_wp2_with fail
            all_goals (try (exfalso; simp only [size_bs] at *; omega))
            go_meet
            case rel => exact ⟨by rw [HE.out], K9, B9⟩
        case rest =>
          obtain ⟨rfl, K, B⟩ := hcut
          clear hY3
          clear d4
          clear d5
          have hl := say_len Y3 (he) ([69, 120, 112, 105, 114, 101, 115, 61] ++ if isMom ex = true then writeOf ex 0 else [])
          obtain ⟨Y4, hY4⟩ := name_it (Y3 ++ Lib.joinTail [59, 32] (sayIf (he) ([69, 120, 112, 105, 114, 101, 115, 61] ++ if isMom ex = true then writeOf ex 0 else [])))
          rw [hY4.out] at HTC hl
          have hlt : ([69, 120, 112, 105, 114, 101, 115, 61] ++ if isMom ex = true then writeOf ex 0 else []).length ≤ 1073741900 := by split <;> (have := date_len ex; simp; try omega)
          have hx4 : Y4.length ≤ 6442451258 := by omega
          clear hlt hl
          have d6 := K.out.at 6 _ rfl
          have d7 := K.out.at 7 _ rfl
          go_upto_if 44 with fail
          go_cut [5] (fun s wx => s = .string (bs Y4) ∧ Hid (CellsAt wx w.heap.size [.string (bs n), .string (bs v), .string (bs p), .string (bs d), .int .i64 ma, .bool hm, .int .i64 ex, .bool he, .bool sc, .bool ht, .int .i64 sm]) ∧ Hid (Below w.heap.size w wx))
          case first =>
            clear HTC
            rw [jt_say] at hY4
            cases he with
            | false =>
              have HE : Hid (Y4 = Y3) := by rw [← hY4.out, if_neg (by decide)]; rfl
              clear hY4
              go_wp2_with fail
              go_meet
              case rel => exact ⟨by rw [HE.out], K, B⟩
            | true =>
              have hmo := HEX.out rfl
              have HE : Hid (bs Y4 = bs Y3 ++ (⟨#[59, 32, 69, 120, 112, 105, 114, 101, 115, 61]⟩ ++ bs (writeOf ex 0))) := by
                rw [← hY4.out, if_pos rfl, if_pos hmo]; unfold Hid
                have h1 : (⟨#[59, 32, 69, 120, 112, 105, 114, 101, 115, 61]⟩ : ByteArray) ++ bs (writeOf ex 0) = bs ([59, 32, 69, 120, 112, 105, 114, 101, 115, 61] ++ writeOf ex 0) := bs_append [59, 32, 69, 120, 112, 105, 114, 101, 115, 61] _
                rw [h1, bs_append]; rfl
              have HV0 := writeV_ok0 (m := ex) hmo
              rw [HV0] at HWR
              have lD := date_len ex
              obtain ⟨D, hD⟩ := name_it (writeOf ex 0)
              rw [hD.out] at HWR HE lD
              clear hY4 HV0 hD hmo
              go_wp2_with fail
              refine (HWR.out _).mono ?_; rintro e w9 ⟨rfl, hb9⟩
              have K9 := Lib.hid (K.out.next hb9)
              have B9 := Lib.hid (B.out.trans (hb9.mono B.out.size))
              clear hb9
              go_wp2_with fail
              all_goals (try (exfalso; simp only [size_bs] at *; omega))
              go_meet
              case rel => exact ⟨by rw [HE.out], K9, B9⟩
          case rest =>
            obtain ⟨rfl, K, B⟩ := hcut
            clear hY4
            clear d6
            clear d7
            have hl := say_len Y4 (sc) (L ⟨#[83, 101, 99, 117, 114, 101]⟩)
            obtain ⟨Y5, hY5⟩ := name_it (Y4 ++ Lib.joinTail [59, 32] (sayIf (sc) (L ⟨#[83, 101, 99, 117, 114, 101]⟩)))
            rw [hY5.out] at HTC hl
            have hlt : (L ⟨#[83, 101, 99, 117, 114, 101]⟩).length ≤ 1073741900 := by decide
            have hx5 : Y5.length ≤ 7516193160 := by omega
            clear hlt hl
            have d8 := K.out.at 8 _ rfl
            go_upto_if 56 with fail
            go_cut [5] (fun s wx => s = .string (bs Y5) ∧ Hid (CellsAt wx w.heap.size [.string (bs n), .string (bs v), .string (bs p), .string (bs d), .int .i64 ma, .bool hm, .int .i64 ex, .bool he, .bool sc, .bool ht, .int .i64 sm]) ∧ Hid (Below w.heap.size w wx))
            case first =>
              clear HTC
              rw [jt_say] at hY5
              cases sc with
              | false =>
                have HE : Hid (Y5 = Y4) := by rw [← hY5.out, if_neg (by decide)]; rfl
                clear hY5
                go_wp2_with fail
                go_meet
                case rel => exact ⟨by rw [HE.out], K, B⟩
              | true =>
                have HE : Hid (bs Y5 = bs Y4 ++ ⟨#[59, 32, 83, 101, 99, 117, 114, 101]⟩) := by
                  rw [← hY5.out, if_pos rfl]; unfold Hid
                  have h1 : bs Y4 ++ (⟨#[59, 32, 83, 101, 99, 117, 114, 101]⟩ : ByteArray) = bs (Y4 ++ [59, 32, 83, 101, 99, 117, 114, 101]) := bs_append Y4 [59, 32, 83, 101, 99, 117, 114, 101]
                  rw [h1]; rfl
                have sz : (⟨#[59, 32, 83, 101, 99, 117, 114, 101]⟩ : ByteArray).size = 8 := rfl
                clear hY5
                go_wp2_with fail
                all_goals (try (exfalso; simp only [size_bs] at *; omega))
                go_meet
                case rel => exact ⟨by rw [HE.out], K, B⟩
            case rest =>
              obtain ⟨rfl, K, B⟩ := hcut
              clear hY5
              clear d8
              have hl := say_len Y5 (ht) (L ⟨#[72, 116, 116, 112, 79, 110, 108, 121]⟩)
              obtain ⟨Y6, hY6⟩ := name_it (Y5 ++ Lib.joinTail [59, 32] (sayIf (ht) (L ⟨#[72, 116, 116, 112, 79, 110, 108, 121]⟩)))
              rw [hY6.out] at HTC hl
              have hlt : (L ⟨#[72, 116, 116, 112, 79, 110, 108, 121]⟩).length ≤ 1073741900 := by decide
              have hx6 : Y6.length ≤ 8589935062 := by omega
              clear hlt hl
              have d9 := K.out.at 9 _ rfl
              go_upto_if 60 with fail
              go_cut [5] (fun s wx => s = .string (bs Y6) ∧ Hid (CellsAt wx w.heap.size [.string (bs n), .string (bs v), .string (bs p), .string (bs d), .int .i64 ma, .bool hm, .int .i64 ex, .bool he, .bool sc, .bool ht, .int .i64 sm]) ∧ Hid (Below w.heap.size w wx))
              case first =>
                clear HTC
                rw [jt_say] at hY6
                cases ht with
                | false =>
                  have HE : Hid (Y6 = Y5) := by rw [← hY6.out, if_neg (by decide)]; rfl
                  clear hY6
                  go_wp2_with fail
                  go_meet
                  case rel => exact ⟨by rw [HE.out], K, B⟩
                | true =>
                  have HE : Hid (bs Y6 = bs Y5 ++ ⟨#[59, 32, 72, 116, 116, 112, 79, 110, 108, 121]⟩) := by
                    rw [← hY6.out, if_pos rfl]; unfold Hid
                    have h1 : bs Y5 ++ (⟨#[59, 32, 72, 116, 116, 112, 79, 110, 108, 121]⟩ : ByteArray) = bs (Y5 ++ [59, 32, 72, 116, 116, 112, 79, 110, 108, 121]) := bs_append Y5 [59, 32, 72, 116, 116, 112, 79, 110, 108, 121]
                    rw [h1]; rfl
                  have sz : (⟨#[59, 32, 72, 116, 116, 112, 79, 110, 108, 121]⟩ : ByteArray).size = 10 := rfl
                  clear hY6
                  go_wp2_with fail
                  all_goals (try (exfalso; simp only [size_bs] at *; omega))
                  go_meet
                  case rel => exact ⟨by rw [HE.out], K, B⟩
              case rest =>
                obtain ⟨rfl, K, B⟩ := hcut
                clear hY6
                clear d9
                have hs : sm = 0 ∨ sm = 1 ∨ sm = 2 ∨ sm = 3 := by omega
                clear h8 h9
                have GB := B.out.size
                rcases hs with rfl | rfl | rfl | rfl
                · have d10 := K.out.at 10 _ rfl
                  have HE : Hid (Y6 = textC ⟨n, v, p, d, ma, hm, ex, he, sc, ht, 0⟩) := by
                    rw [← HTC.out]; unfold Hid
                    simp [sayIf, Lib.joinTail]
                  clear HTC
                  go_wp2_with fail
                  go_ret2
                  exact ⟨by rw [HV.out, ← HE.out]; rfl, B.out⟩
                · have d10 := K.out.at 10 _ rfl
                  have z10 := (K.out.next ((Below.refl _ _).alloc (Nat.le_refl _) (.cells #[.string ⟨#[76, 97, 120]⟩, .string ⟨#[83, 116, 114, 105, 99, 116]⟩, .string ⟨#[78, 111, 110, 101]⟩] 9))).at 10 _ rfl
                  have HE : Hid (bs (textC ⟨n, v, p, d, ma, hm, ex, he, sc, ht, 1⟩) = bs Y6 ++ (⟨#[59, 32, 83, 97, 109, 101, 83, 105, 116, 101, 61]⟩ ++ ⟨#[76, 97, 120]⟩)) := by
                    rw [← HTC.out]; unfold Hid
                    have h1 : (⟨#[59, 32, 83, 97, 109, 101, 83, 105, 116, 101, 61]⟩ : ByteArray) ++ ⟨#[76, 97, 120]⟩ = bs ([59, 32, 83, 97, 109, 101, 83, 105, 116, 101, 61, 76, 97, 120]) := rfl
                    rw [h1, bs_append]
                    congr 1
                    simp [sayIf, Lib.joinTail, L]
                  clear HTC
                  have s2 : (⟨#[59, 32, 83, 97, 109, 101, 83, 105, 116, 101, 61]⟩ : ByteArray).size = 11 := rfl
                  have s3 : (⟨#[76, 97, 120]⟩ : ByteArray).size = 3 := rfl
                  go_wp2_with fail
                  all_goals (try (exfalso; simp only [size_bs] at *; omega))
                  go_ret2
                  exact ⟨by rw [HV.out, HE.out]; rfl, (B.out.alloc GB _)⟩
                · have d10 := K.out.at 10 _ rfl
                  have z10 := (K.out.next ((Below.refl _ _).alloc (Nat.le_refl _) (.cells #[.string ⟨#[76, 97, 120]⟩, .string ⟨#[83, 116, 114, 105, 99, 116]⟩, .string ⟨#[78, 111, 110, 101]⟩] 9))).at 10 _ rfl
                  have HE : Hid (bs (textC ⟨n, v, p, d, ma, hm, ex, he, sc, ht, 2⟩) = bs Y6 ++ (⟨#[59, 32, 83, 97, 109, 101, 83, 105, 116, 101, 61]⟩ ++ ⟨#[83, 116, 114, 105, 99, 116]⟩)) := by
                    rw [← HTC.out]; unfold Hid
                    have h1 : (⟨#[59, 32, 83, 97, 109, 101, 83, 105, 116, 101, 61]⟩ : ByteArray) ++ ⟨#[83, 116, 114, 105, 99, 116]⟩ = bs ([59, 32, 83, 97, 109, 101, 83, 105, 116, 101, 61, 83, 116, 114, 105, 99, 116]) := rfl
                    rw [h1, bs_append]
                    congr 1
                    simp [sayIf, Lib.joinTail, L]
                  clear HTC
                  have s2 : (⟨#[59, 32, 83, 97, 109, 101, 83, 105, 116, 101, 61]⟩ : ByteArray).size = 11 := rfl
                  have s3 : (⟨#[83, 116, 114, 105, 99, 116]⟩ : ByteArray).size = 6 := rfl
                  go_wp2_with fail
                  all_goals (try (exfalso; simp only [size_bs] at *; omega))
                  go_ret2
                  exact ⟨by rw [HV.out, HE.out]; rfl, (B.out.alloc GB _)⟩
                · have d10 := K.out.at 10 _ rfl
                  have z10 := (K.out.next ((Below.refl _ _).alloc (Nat.le_refl _) (.cells #[.string ⟨#[76, 97, 120]⟩, .string ⟨#[83, 116, 114, 105, 99, 116]⟩, .string ⟨#[78, 111, 110, 101]⟩] 9))).at 10 _ rfl
                  have HE : Hid (bs (textC ⟨n, v, p, d, ma, hm, ex, he, sc, ht, 3⟩) = bs Y6 ++ (⟨#[59, 32, 83, 97, 109, 101, 83, 105, 116, 101, 61]⟩ ++ ⟨#[78, 111, 110, 101]⟩)) := by
                    rw [← HTC.out]; unfold Hid
                    have h1 : (⟨#[59, 32, 83, 97, 109, 101, 83, 105, 116, 101, 61]⟩ : ByteArray) ++ ⟨#[78, 111, 110, 101]⟩ = bs ([59, 32, 83, 97, 109, 101, 83, 105, 116, 101, 61, 78, 111, 110, 101]) := rfl
                    rw [h1, bs_append]
                    congr 1
                    simp [sayIf, Lib.joinTail, L]
                  clear HTC
                  have s2 : (⟨#[59, 32, 83, 97, 109, 101, 83, 105, 116, 101, 61]⟩ : ByteArray).size = 11 := rfl
                  have s3 : (⟨#[78, 111, 110, 101]⟩ : ByteArray).size = 4 := rfl
                  go_wp2_with fail
                  all_goals (try (exfalso; simp only [size_bs] at *; omega))
                  go_ret2
                  exact ⟨by rw [HV.out, HE.out]; rfl, (B.out.alloc GB _)⟩
  · have HV := Lib.hid (hbad hw0)
    clear hbad hok hwp hcw htc K
    go_wp2_with fail
    all_goals (try (exfalso; omega))
    go_ret2
    exact ⟨by rw [HV.out]; rfl, B.out⟩
end Go.Proofs.YtkenianfpfamcaaGreatDoor
namespace Go.Proofs.YtkenianfpfamcaaGreatDoor
open Go Go.RowKit
set_option maxHeartbeats 4000000

abbrev tRSet : TypeId := 42
set_option maxRecDepth 100000 in
theorem set_law (c : SetC) (w : World) : Calls Tryz.prog 19 #[.agg (cellsS c).toArray] w fun e w' => e = .returned (.agg (cellsS c).toArray) ∧ Below w.heap.size w w' := by
  have KA := Lib.hid (CellsAt.first w (cellsS c) tS)
  have BA := Lib.hid (below_put2 (w := w) (cs := (cellsS c).toArray) (T := tS))
  have HS : Hid (.agg (cellsS c).toArray = (.agg (cellsS c).toArray : Value)) := rfl
  obtain ⟨V, hV⟩ := name_it (.agg (cellsS c).toArray : Value)
  have HV : Hid ((.agg (cellsS c).toArray : Value) = V) := hV.out
  have hgoal : (Ending.returned (.agg (cellsS c).toArray) : Ending) = .returned V := by rw [hV.out]
  rw [hgoal]
  clear hgoal HS hV
  obtain ⟨n, v, p, d, ma, hm, ex, he, sc, ht, sm⟩ := c
  unfold cellsS at KA BA HV ⊢
  simp only at *
  go_enter Tryz.func19, Tryz.ntmps19
  have KF := Lib.hid (CellsAt.first (w.alloc (.cells #[.string (bs n), .string (bs v), .string (bs p), .string (bs d), .int .i64 ma, .bool hm, .int .i64 ex, .bool he, .bool sc, .bool ht, .int .i64 sm] tS)) [.string (bs n), .string (bs v), .string (bs p), .string (bs d), .int .i64 ma, .bool hm, .int .i64 ex, .bool he, .bool sc, .bool ht, .int .i64 sm] tRSet)
  have BF := Lib.hid (BA.out.alloc BA.out.size (.cells #[.string (bs n), .string (bs v), .string (bs p), .string (bs d), .int .i64 ma, .bool hm, .int .i64 ex, .bool he, .bool sc, .bool ht, .int .i64 sm] tRSet))
  have hsz : (w.alloc (.cells #[.string (bs n), .string (bs v), .string (bs p), .string (bs d), .int .i64 ma, .bool hm, .int .i64 ex, .bool he, .bool sc, .bool ht, .int .i64 sm] tS)).heap.size = w.heap.size + 1 := by
    show (w.heap.push _).size = _
    rw [Array.size_push]
  rw [hsz] at KF
  clear hsz
  go_wp2_with fail
  have f0 := KF.out.at 0 _ rfl
  have f1 := KF.out.at 1 _ rfl
  have f2 := KF.out.at 2 _ rfl
  have f3 := KF.out.at 3 _ rfl
  have f4 := KF.out.at 4 _ rfl
  have f5 := KF.out.at 5 _ rfl
  have f6 := KF.out.at 6 _ rfl
  have f7 := KF.out.at 7 _ rfl
  have f8 := KF.out.at 8 _ rfl
  have f9 := KF.out.at 9 _ rfl
  have f10 := KF.out.at 10 _ rfl
  refine bodyPost_ret (v := .agg #[.string (bs n), .string (bs v), .string (bs p), .string (bs d), .int .i64 ma, .bool hm, .int .i64 ex, .bool he, .bool sc, .bool ht, .int .i64 sm]) (by simp [results, Tryz.results19, go_sem, f0, f1, f2, f3, f4, f5, f6, f7, f8, f9, f10]) rfl ?_
  exact ⟨by rw [← HV.out], BF.out⟩
end Go.Proofs.YtkenianfpfamcaaGreatDoor
namespace Go.Proofs.YtkenianfpfamcaaGreatDoor
open Go Go.RowKit
set_option maxHeartbeats 4000000

set_option maxRecDepth 100000 in
theorem lawSays_any (c : SetC) (w : World) (hE : EnvK w) (hf : FitC c) :
    Calls Tryz.prog 6 #[.agg (cellsS c).toArray] w fun e w' => e = .returned (.bool true) ∧ Below w.heap.size w w' := by
  have K1 := Lib.hid (CellsAt.first w (cellsS c) tS)
  have B1 := Lib.hid (below_put2 (w := w) (cs := (cellsS c).toArray) (T := tS))
  have E1 := Lib.hid (hE.alloc (.cells (cellsS c).toArray tS))
  have HA := Lib.hid (fun wx (h : EnvK wx) => awake_any wx h)
  have HP := Lib.hid (fun wx (h : EnvK wx) => printset_any c wx h hf)
  have HS := Lib.hid (fun wx => set_law c wx)
  have HR := Lib.hid (fun wx => rprintset_any c wx hf)
  have hP : printSV c = .tuple #[.string (bs (printSetC c)), .int .i64 (wrongC c)] := rfl
  rw [hP] at HP HR
  obtain ⟨X, hX⟩ := name_it (bs (printSetC c))
  obtain ⟨Y, hY⟩ := name_it (wrongC c)
  rw [hX.out, hY.out] at HP HR
  clear hf hE hP hX hY
  obtain ⟨n, v, p, d, ma, hm, ex, he, sc, ht, sm⟩ := c
  unfold cellsS at K1 B1 E1 HP HS HR ⊢
  simp only at *
  go_enter Tryz.func6, Tryz.ntmps6
  go_wp2_with fail
  generalize w.alloc _ = w1 at K1 B1 E1 ⊢
  refine (HA.out _ E1.out).mono ?_; rintro e w2 ⟨rfl, hb2⟩
  have K2 := Lib.hid (K1.out.next hb2)
  have B2 := Lib.hid (B1.out.trans (hb2.mono B1.out.size))
  have E2 := Lib.hid (E1.out.next hb2)
  clear K1 B1 E1 HA hb2
  have d0 := K2.out.at 0 _ rfl
  have d1 := K2.out.at 1 _ rfl
  have d2 := K2.out.at 2 _ rfl
  have d3 := K2.out.at 3 _ rfl
  have d4 := K2.out.at 4 _ rfl
  have d5 := K2.out.at 5 _ rfl
  have d6 := K2.out.at 6 _ rfl
  have d7 := K2.out.at 7 _ rfl
  have d8 := K2.out.at 8 _ rfl
  have d9 := K2.out.at 9 _ rfl
  have d10 := K2.out.at 10 _ rfl
  go_wp2_with fail
  refine (HP.out _ E2.out).mono ?_; rintro e w3 ⟨rfl, hb3⟩
  have K3 := Lib.hid (K2.out.next hb3)
  have B3 := Lib.hid (B2.out.trans (hb3.mono B2.out.size))
  clear K2 B2 E2 HP hb3 d0 d1 d2 d3 d4 d5 d6 d7 d8 d9 d10
  have d0 := K3.out.at 0 _ rfl
  have d1 := K3.out.at 1 _ rfl
  have d2 := K3.out.at 2 _ rfl
  have d3 := K3.out.at 3 _ rfl
  have d4 := K3.out.at 4 _ rfl
  have d5 := K3.out.at 5 _ rfl
  have d6 := K3.out.at 6 _ rfl
  have d7 := K3.out.at 7 _ rfl
  have d8 := K3.out.at 8 _ rfl
  have d9 := K3.out.at 9 _ rfl
  have d10 := K3.out.at 10 _ rfl
  go_wp2_with fail
  refine (HS.out _).mono ?_; rintro e w4 ⟨rfl, hb4⟩
  have B4 := Lib.hid (B3.out.trans (hb4.mono B3.out.size))
  clear K3 B3 HS hb4 d0 d1 d2 d3 d4 d5 d6 d7 d8 d9 d10
  go_wp2_with fail
  refine (HR.out _).mono ?_; rintro e w5 ⟨rfl, hb5⟩
  have B5 := Lib.hid (B4.out.trans (hb5.mono B4.out.size))
  clear B4 HR hb5
  go_wp2_with fail
  all_goals (try (exfalso; omega))
  go_ret
  exact ⟨ret_bool (by simp), B5.out⟩
end Go.Proofs.YtkenianfpfamcaaGreatDoor
