/- Contract of the document's Write: the walk. -/
import Derived.Test.YtmfnofpphnlbnaaDoorStampX
namespace Go.Proofs.YtmfnofpphnlbnaaDoor
open Go Go.RowKit
set_option maxHeartbeats 2000000

theorem take_flat (f : UInt8 → List UInt8) (p : ByteArray) (k : Nat) (h : k < p.size) : ((L p).take (k + 1)).flatMap f = ((L p).take k).flatMap f ++ f p[k] := by
  rw [L_take h]; simp
theorem flat_len (f : UInt8 → List UInt8) (hf : ∀ c, (f c).length ≤ 9) (l : List UInt8) : (l.flatMap f).length ≤ 9 * l.length := by
  induction l with
  | nil => simp
  | cons c l ih => rw [List.flatMap_cons, List.length_append, List.length_cons]; have := hf c; omega

theorem pick_cases (c : UInt8) : c = 119 ∨ c = 108 ∨ c = 109 ∨ c = 100 ∨ c = 101 ∨ c = 121 ∨ c = 99 ∨ c = 104 ∨ c = 105 ∨ c = 115 ∨ (c ≠ 119 ∧ c ≠ 108 ∧ c ≠ 109 ∧ c ≠ 100 ∧ c ≠ 101 ∧ c ≠ 121 ∧ c ≠ 99 ∧ c ≠ 104 ∧ c ≠ 105 ∧ c ≠ 115) := by
  exact if h0 : c = 119 then Or.inl h0 else Or.inr (if h1 : c = 108 then Or.inl h1 else Or.inr (if h2 : c = 109 then Or.inl h2 else Or.inr (if h3 : c = 100 then Or.inl h3 else Or.inr (if h4 : c = 101 then Or.inl h4 else Or.inr (if h5 : c = 121 then Or.inl h5 else Or.inr (if h6 : c = 99 then Or.inl h6 else Or.inr (if h7 : c = 104 then Or.inl h7 else Or.inr (if h8 : c = 105 then Or.inl h8 else Or.inr (if h9 : c = 115 then Or.inl h9 else Or.inr (⟨h0, h1, h2, h3, h4, h5, h6, h7, h8, h9⟩))))))))))
theorem byte_ne {c : UInt8} {n : Nat} {hn : n < 256} (h : c ≠ UInt8.ofNatLT n hn) : ((c.toNat : Int) == (n : Int)) = false := by
  rw [beq_eq_false_iff_ne]
  intro e
  apply h
  apply UInt8.toNat_inj.1
  have : c.toNat = n := by exact_mod_cast e
  rw [this]; rfl

set_option maxRecDepth 100000 in
theorem rwrite_any (m form : Int) (w : World) :
    Calls Tryd.prog 24 #[.int .i64 m, .int .i64 form] w fun e w' => e = .returned (writeV m form) ∧ Below w.heap.size w w' := by
  obtain ⟨V, hV⟩ := name_it (writeV m form)
  rw [hV.out]
  by_cases hm : isMom m = true
  · obtain ⟨y, mo, d, h, mi, s, wd, HD, HW, HE, ⟨y0, y1⟩, ⟨mo0, mo1⟩, ⟨d0, d1⟩, ⟨h0, h1⟩, ⟨mi0, mi1⟩, ⟨s0, s1⟩, ⟨wd0, wd1⟩⟩ := date_of hm
    by_cases hf : 0 ≤ form ∧ form ≤ 2
    · obtain ⟨f, rfl⟩ := Int.eq_ofNat_of_zero_le hf.1
      have f2 : f < 3 := by omega
      obtain ⟨f0, f1⟩ := hf
      have hok : okForm f = true := by unfold okForm; exact decide_eq_true (by omega)
      have hflat := pat_write f f2 y mo d h mi s wd y0 y1 d0 d1 h0 h1 mi0 mi1 s0 s1
      have hres : Hid (V = .tuple #[.string (bs ((patL f).flatMap (wrc y mo d h mi s wd))), .int .i64 0]) := by
        rw [← hV.out, hflat]; unfold Hid writeV; rw [hm, hok]; simp only [if_true]; rw [← HW.out]; rfl
      clear hV hflat
      obtain ⟨p, hp⟩ := name_it (bs (patL f))
      have hpl : Hid (patL f = L p) := by rw [← hp.out]; rfl
      have hps : p.size ≤ 18 := by
        rw [← L_length, ← hpl.out]; unfold patL; split <;> (try split) <;> decide
      rw [hpl.out] at hres
      obtain ⟨F, hF⟩ := name_it (wrc y mo d h mi s wd)
      have hFl : Hid (∀ c, (F c).length ≤ 9) := by rw [← hF.out]; exact wrc_len y mo d h mi s wd
      rw [hF.out] at hres
      go_enter Tryd.func24, Tryd.ntmps24
      go_wp2_with fail
      refine (rsplit_any _ _).mono ?_; rintro e w1 ⟨rfl, hb1⟩
      rw [HD.out, HE.out]
      unfold dateV
      have A0 := Lib.hid (CellsAt.first w1 [.int .i64 y, .int .i64 mo, .int .i64 d, .int .i64 h, .int .i64 mi, .int .i64 s, .int .i64 wd] 35)
      have B0 := hb1.alloc hb1.size (.cells #[.int .i64 y, .int .i64 mo, .int .i64 d, .int .i64 h, .int .i64 mi, .int .i64 s, .int .i64 wd] 35)
      go_wp2_with fail
      refine (rpattern_any _ _).mono ?_; rintro e w2 ⟨rfl, rfl⟩
      rw [hp.out]
      go_wp2_with fail
      go_loopw [8, 10] (fun out i wq => ∃ (k : Nat), k ≤ p.size ∧ i = .int .i64 k ∧ out = .string (bs (((L p).take k).flatMap F)) ∧
        Hid (CellsAt wq w1.heap.size [.int .i64 y, .int .i64 mo, .int .i64 d, .int .i64 h, .int .i64 mi, .int .i64 s, .int .i64 wd]) ∧ Below w.heap.size w wq) (fun _ i _ => p.size - (intOf i).toNat)
      case atStart => exact ⟨0, Nat.zero_le _, rfl, rfl, A0, B0⟩
      case round =>
        obtain ⟨k, hk, rfl, rfl, A, hbr⟩ := hrel
        have hlen := flat_len F hFl.out ((L p).take k)
        have htk : ((L p).take k).length ≤ k := List.length_take_le _ _
        by_cases hlt : k < p.size
        · have HT := Lib.hid (take_flat F p k hlt)
          obtain ⟨o, ho⟩ := name_it (((L p).take k).flatMap F)
          rw [ho.out] at HT hlen ⊢
          have hos : (bs o).size ≤ 170 := by rw [size_bs]; omega
          obtain ⟨X, hX⟩ := name_it (F p[k])
          rw [hX.out] at HT
          have hXF : Hid (wrc y mo d h mi s wd p[k] = X) := by rw [hF.out]; exact hX
          have hXl : (bs X).size ≤ 9 := by
            rw [size_bs]; have := hFl.out p[k]; rw [hX.out] at this; exact this
          have hT2 : Hid (bs (((L p).take (k + 1)).flatMap F) = bs o ++ bs X) := by
            unfold Hid; rw [HT.out]; apply L_inj.1; simp [L, bs, ByteArray.data_append]
          clear HT hlen htk ho hX
          have c0 := A.out.cell 0 (by simp)
          have c1 := A.out.cell 1 (by simp)
          have c2 := A.out.cell 2 (by simp)
          have c3 := A.out.cell 3 (by simp)
          have c4 := A.out.cell 4 (by simp)
          have c5 := A.out.cell 5 (by simp)
          have c6 := A.out.cell 6 (by simp)
          simp only [List.getElem_cons_zero, List.getElem_cons_succ] at c0 c1 c2 c3 c4 c5 c6
          rcases pick_cases p[k] with hc | hc | hc | hc | hc | hc | hc | hc | hc | hc | hc
          · have hv : (p[k].toNat : Int) = 119 := by rw [hc]; rfl
            have hX2 : Hid (Stm.shortN.getD wd.toNat [] = X) := by rw [← hXF.out, hc]; rfl
            clear hXF hc
            go_wp2_with fail
            all_goals (try (exfalso; omega))
            refine (rshortI _ _ wd0 wd1).mono ?_; rintro e w3 ⟨rfl, hb3⟩
            rw [hX2.out]
            go_wp2_with fail
            all_goals (try (exfalso; omega))
            go_roundw
            case rel => exact ⟨k + 1, by omega, by go_num, by rw [hT2.out], Lib.hid (A.out.next hb3), hbr.trans (hb3.mono hbr.size)⟩
            case measure => simp [intOf]; omega
          · have hv : (p[k].toNat : Int) = 108 := by rw [hc]; rfl
            have hX2 : Hid (Stm.longN.getD wd.toNat [] = X) := by rw [← hXF.out, hc]; rfl
            clear hXF hc
            go_wp2_with fail
            all_goals (try (exfalso; omega))
            refine (rlongI _ _ wd0 wd1).mono ?_; rintro e w3 ⟨rfl, hb3⟩
            rw [hX2.out]
            go_wp2_with fail
            all_goals (try (exfalso; omega))
            go_roundw
            case rel => exact ⟨k + 1, by omega, by go_num, by rw [hT2.out], Lib.hid (A.out.next hb3), hbr.trans (hb3.mono hbr.size)⟩
            case measure => simp [intOf]; omega
          · have hv : (p[k].toNat : Int) = 109 := by rw [hc]; rfl
            have hX2 : Hid (Stm.monN.getD (mo - 1).toNat [] = X) := by rw [← hXF.out, hc]; rfl
            clear hXF hc
            go_wp2_with fail
            all_goals (try (exfalso; omega))
            refine (rmonthI _ _ (by omega) (by omega)).mono ?_; rintro e w3 ⟨rfl, rfl⟩
            rw [hX2.out]
            go_wp2_with fail
            all_goals (try (exfalso; omega))
            go_roundw
            case rel => exact ⟨k + 1, by omega, by go_num, by rw [hT2.out], A, hbr⟩
            case measure => simp [intOf]; omega
          · have hv : (p[k].toNat : Int) = 100 := by rw [hc]; rfl
            have hX2 : Hid (digW d 2 = X) := by rw [← hXF.out, hc]; rfl
            clear hXF hc
            go_wp2_with fail
            all_goals (try (exfalso; omega))
            refine (rdigs2 _ _ (by omega) (by omega)).mono ?_; rintro e w3 ⟨rfl, hb3⟩
            rw [hX2.out]
            go_wp2_with fail
            all_goals (try (exfalso; omega))
            go_roundw
            case rel => exact ⟨k + 1, by omega, by go_num, by rw [hT2.out], Lib.hid (A.out.next hb3), hbr.trans (hb3.mono hbr.size)⟩
            case measure => simp [intOf]; omega
          · have hv : (p[k].toNat : Int) = 101 := by rw [hc]; rfl
            by_cases hd : d < 10
            · have hX2 : Hid (⟨#[32]⟩ ++ bs (digW d 1) = bs X) := by
                rw [← hXF.out, hc]; unfold Hid; rw [show wrc y mo d h mi s wd 101 = 32 :: digW d 1 by simp [wrc, hd]]; apply L_inj.1; simp [L, bs, ByteArray.data_append]
              have hl1 : (bs (digW d 1)).size = 1 := by rw [size_bs, digW_len]
              clear hXF hc
              go_wp2_with fail
              all_goals (try (exfalso; omega))
              refine (rdigs1 _ _ (by omega) (by omega)).mono ?_; rintro e w3 ⟨rfl, hb3⟩
              obtain ⟨Z, hZ⟩ := name_it (bs (digW d 1))
              rw [hZ.out] at hX2 hl1 ⊢
              go_wp2_with fail
              all_goals (try (exfalso; omega))
              go_roundw
              case rel => exact ⟨k + 1, by omega, by go_num, by rw [hT2.out, ← hX2.out], Lib.hid (A.out.next hb3), hbr.trans (hb3.mono hbr.size)⟩
              case measure => simp [intOf]; omega
            · have hX2 : Hid (digW d 2 = X) := by rw [← hXF.out, hc]; unfold Hid; simp [wrc, hd]
              clear hXF hc
              go_wp2_with fail
              all_goals (try (exfalso; omega))
              refine (rdigs2 _ _ (by omega) (by omega)).mono ?_; rintro e w3 ⟨rfl, hb3⟩
              rw [hX2.out]
              go_wp2_with fail
              all_goals (try (exfalso; omega))
              go_roundw
              case rel => exact ⟨k + 1, by omega, by go_num, by rw [hT2.out], Lib.hid (A.out.next hb3), hbr.trans (hb3.mono hbr.size)⟩
              case measure => simp [intOf]; omega
          · have hv : (p[k].toNat : Int) = 121 := by rw [hc]; rfl
            have hX2 : Hid (digW y 4 = X) := by rw [← hXF.out, hc]; rfl
            clear hXF hc
            go_wp2_with fail
            all_goals (try (exfalso; omega))
            refine (rdigs4 _ _ (by omega) (by omega)).mono ?_; rintro e w3 ⟨rfl, hb3⟩
            rw [hX2.out]
            go_wp2_with fail
            all_goals (try (exfalso; omega))
            go_roundw
            case rel => exact ⟨k + 1, by omega, by go_num, by rw [hT2.out], Lib.hid (A.out.next hb3), hbr.trans (hb3.mono hbr.size)⟩
            case measure => simp [intOf]; omega
          · have hv : (p[k].toNat : Int) = 99 := by rw [hc]; rfl
            have hX2 : Hid (digW y 2 = X) := by rw [← hXF.out, hc]; rfl
            clear hXF hc
            go_wp2_with fail
            all_goals (try (exfalso; omega))
            refine (rdigs2 _ _ (by omega) (by omega)).mono ?_; rintro e w3 ⟨rfl, hb3⟩
            rw [hX2.out]
            go_wp2_with fail
            all_goals (try (exfalso; omega))
            go_roundw
            case rel => exact ⟨k + 1, by omega, by go_num, by rw [hT2.out], Lib.hid (A.out.next hb3), hbr.trans (hb3.mono hbr.size)⟩
            case measure => simp [intOf]; omega
          · have hv : (p[k].toNat : Int) = 104 := by rw [hc]; rfl
            have hX2 : Hid (digW h 2 = X) := by rw [← hXF.out, hc]; rfl
            clear hXF hc
            go_wp2_with fail
            all_goals (try (exfalso; omega))
            refine (rdigs2 _ _ (by omega) (by omega)).mono ?_; rintro e w3 ⟨rfl, hb3⟩
            rw [hX2.out]
            go_wp2_with fail
            all_goals (try (exfalso; omega))
            go_roundw
            case rel => exact ⟨k + 1, by omega, by go_num, by rw [hT2.out], Lib.hid (A.out.next hb3), hbr.trans (hb3.mono hbr.size)⟩
            case measure => simp [intOf]; omega
          · have hv : (p[k].toNat : Int) = 105 := by rw [hc]; rfl
            have hX2 : Hid (digW mi 2 = X) := by rw [← hXF.out, hc]; rfl
            clear hXF hc
            go_wp2_with fail
            all_goals (try (exfalso; omega))
            refine (rdigs2 _ _ (by omega) (by omega)).mono ?_; rintro e w3 ⟨rfl, hb3⟩
            rw [hX2.out]
            go_wp2_with fail
            all_goals (try (exfalso; omega))
            go_roundw
            case rel => exact ⟨k + 1, by omega, by go_num, by rw [hT2.out], Lib.hid (A.out.next hb3), hbr.trans (hb3.mono hbr.size)⟩
            case measure => simp [intOf]; omega
          · have hv : (p[k].toNat : Int) = 115 := by rw [hc]; rfl
            have hX2 : Hid (digW s 2 = X) := by rw [← hXF.out, hc]; rfl
            clear hXF hc
            go_wp2_with fail
            all_goals (try (exfalso; omega))
            refine (rdigs2 _ _ (by omega) (by omega)).mono ?_; rintro e w3 ⟨rfl, hb3⟩
            rw [hX2.out]
            go_wp2_with fail
            all_goals (try (exfalso; omega))
            go_roundw
            case rel => exact ⟨k + 1, by omega, by go_num, by rw [hT2.out], Lib.hid (A.out.next hb3), hbr.trans (hb3.mono hbr.size)⟩
            case measure => simp [intOf]; omega
          · obtain ⟨q0, q1, q2, q3, q4, q5, q6, q7, q8, q9⟩ := hc
            have v0 : ((p[k].toNat : Int) == 119) = false := byte_ne q0
            have v1 : ((p[k].toNat : Int) == 108) = false := byte_ne q1
            have v2 : ((p[k].toNat : Int) == 109) = false := byte_ne q2
            have v3 : ((p[k].toNat : Int) == 100) = false := byte_ne q3
            have v4 : ((p[k].toNat : Int) == 101) = false := byte_ne q4
            have v5 : ((p[k].toNat : Int) == 121) = false := byte_ne q5
            have v6 : ((p[k].toNat : Int) == 99) = false := byte_ne q6
            have v7 : ((p[k].toNat : Int) == 104) = false := byte_ne q7
            have v8 : ((p[k].toNat : Int) == 105) = false := byte_ne q8
            have v9 : ((p[k].toNat : Int) == 115) = false := byte_ne q9
            have hX2 : Hid (p.extract k (k + 1) = bs X) := by rw [← hXF.out, extract_one p k hlt]; unfold Hid wrc; simp [q0, q1, q2, q3, q4, q5, q6, q7, q8, q9]
            clear hXF q0 q1 q2 q3 q4 q5 q6 q7 q8 q9
            go_wp2_with fail
            all_goals (try (exfalso; omega))
            go_roundw
            case rel => exact ⟨k + 1, by omega, by go_num, by rw [hT2.out, ← hX2.out], A, hbr⟩
            case measure => simp [intOf]; omega
        · obtain rfl : k = p.size := by omega
          have hr2 : Hid (V = .tuple #[.string (bs (((L p).take p.size).flatMap F)), .int .i64 0]) := by rw [L_take_all]; exact hres
          go_wp2_with fail
          all_goals (try (exfalso; omega))
          go_ret2
          exact ⟨by rw [hr2.out]; rfl, hbr⟩
    · have hok : okForm form = false := by unfold okForm; exact decide_eq_false hf
      have hres : Hid (V = .tuple #[.string ⟨#[]⟩, .int .i64 44]) := by
        rw [← hV.out]; unfold Hid writeV; rw [hm, hok]; rfl
      have hcase : form < 0 ∨ (0 ≤ form ∧ 2 < form) := by omega
      clear hf hV
      rcases hcase with hf | ⟨hf, hf'⟩
      all_goals
        go_enter Tryd.func24, Tryd.ntmps24
        go_wp2_with fail
        refine (rsplit_any _ _).mono ?_; rintro e w1 ⟨rfl, hb1⟩
        rw [HD.out, HE.out]
        unfold dateV
        go_wp2_with fail
        all_goals (try (exfalso; omega))
        go_ret2
        exact ⟨by rw [hres.out]; rfl, hb1.alloc hb1.size _⟩
  · have hm : isMom m = false := by simpa using hm
    have hres : Hid (V = .tuple #[.string ⟨#[]⟩, .int .i64 40]) := by
      rw [← hV.out]; unfold Hid writeV; rw [hm]; rfl
    have HE : Hid (splitE m = 40 ∧ splitD m = dateV 0 0 0 0 0 0 0) := by unfold Hid splitE splitD; rw [hm]; exact ⟨rfl, rfl⟩
    go_enter Tryd.func24, Tryd.ntmps24
    go_wp2_with fail
    refine (rsplit_any _ _).mono ?_; rintro e w1 ⟨rfl, hb1⟩
    rw [HE.out.1, HE.out.2]
    unfold dateV
    go_wp2_with fail
    go_ret2
    exact ⟨by rw [hres.out]; rfl, hb1.alloc hb1.size _⟩
end Go.Proofs.YtmfnofpphnlbnaaDoor
