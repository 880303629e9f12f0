/- Contract of the document's Write: a moment in a form. Contract of the document's Write: the walk. Contracts of stamp's two and of the library's Itoa and Repeat as stamp uses them; what the package's tables hold. Contract of stamp's Write and Print: a moment in a form. Contracts of the document's begins, FormOf, name and number. -/
import Derived.Test.YtkenianfpfamcaaGreatDoorMd
import Derived.Test.YtkenianfpfamcaaGreatDoorShelf
import Derived.Lib.ItoaLen
import Derived.Deep.RegionHeld3
namespace Go.Proofs.YtkenianfpfamcaaGreatDoor
open Go Go.RowKit
set_option maxHeartbeats 1000000

/-- a date in a form -/
def writeL (form : Nat) (y mo d h mi s wd : Int) : List UInt8 :=
  Stm.txt form wd.toNat (mo - 1).toNat (if form = 2 ∧ d < 10 then [32, UInt8.ofNat (48 + d.toNat)] else Stm.d2 d) (if form = 1 then y % 100 else y) h mi s
def writeOf (m : Int) (form : Nat) : List UInt8 :=
  writeL form (Cal.yOf (splitN m)) (Cal.mOf (splitN m)) (Cal.dOf (splitN m)) (splitR m / 3600) (splitR m / 60 % 60) (splitR m % 60) (splitN m % 7)
def okForm (form : Int) : Bool := decide (0 ≤ form ∧ form ≤ 2)
def writeV (m form : Int) : Value :=
  .tuple #[.string (bs (if isMom m then if okForm form then writeOf m form.toNat else [] else [])), .int .i64 (if isMom m then if okForm form then 0 else 44 else 40)]

/-- the fields of a moment's date -/
theorem date_of {m : Int} (hm : isMom m = true) : ∃ y mo d h mi s wd : Int, Hid (splitD m = dateV y mo d h mi s wd) ∧ Hid (∀ form, writeOf m form = writeL form y mo d h mi s wd) ∧ Hid (splitE m = 0) ∧
    (1 ≤ y ∧ y ≤ 9999) ∧ (1 ≤ mo ∧ mo ≤ 12) ∧ (1 ≤ d ∧ d ≤ 31) ∧ (0 ≤ h ∧ h ≤ 23) ∧ (0 ≤ mi ∧ mi ≤ 59) ∧ (0 ≤ s ∧ s ≤ 59) ∧ (0 ≤ wd ∧ wd ≤ 6) := by
  have hd : -62135596800 ≤ m ∧ m ≤ 253402300799 := by unfold isMom at hm; exact of_decide_eq_true hm
  have n0 : 0 ≤ splitN m := by unfold splitN; omega
  have n1 : splitN m < 3652059 := by unfold splitN; omega
  have r0 : 0 ≤ splitR m := by unfold splitR; omega
  have r1 : splitR m < 86400 := by unfold splitR; omega
  have hy := Cal.yOf_ok n0 n1
  obtain ⟨d1, d2, d3, d4, d5⟩ := Cal.isDate_of n0 n1
  have hmd := Cal.mdays_lo (Cal.yOf (splitN m)) (Cal.mOf (splitN m))
  refine ⟨_, _, _, _, _, _, _, ?_, fun form => rfl, ?_, ⟨hy.1, hy.2.1⟩, ⟨d1, d2⟩, ⟨d3, by omega⟩, by omega, by omega, by omega, by omega⟩
  · unfold Hid splitD; rw [if_pos hm]
  · unfold Hid splitE; rw [if_pos hm]

/-- what a sign of a pattern stands for -/
def wrc (y mo d h mi s wd : Int) (c : UInt8) : List UInt8 :=
  if c = 119 then Stm.shortN.getD wd.toNat [] else if c = 108 then Stm.longN.getD wd.toNat [] else if c = 109 then Stm.monN.getD (mo - 1).toNat []
  else if c = 100 then digW d 2 else if c = 101 then (if d < 10 then 32 :: digW d 1 else digW d 2) else if c = 121 then digW y 4 else if c = 99 then digW y 2
  else if c = 104 then digW h 2 else if c = 105 then digW mi 2 else if c = 115 then digW s 2 else [c]
theorem pat_write (form : Nat) (hf : form < 3) (y mo d h mi s wd : Int) (y0 : 1 ≤ y) (y1 : y ≤ 9999) (d0 : 1 ≤ d) (d1 : d ≤ 31) (h0 : 0 ≤ h) (h1 : h ≤ 23) (m0 : 0 ≤ mi) (m1 : mi ≤ 59) (s0 : 0 ≤ s) (s1 : s ≤ 59) :
    (patL form).flatMap (wrc y mo d h mi s wd) = writeL form y mo d h mi s wd := by
  have e1 : digW d 2 = Stm.d2 d := by rw [digW_2 d (by omega), show d % 100 = d by omega]
  have e2 : digW h 2 = Stm.d2 h := by rw [digW_2 h (by omega), show h % 100 = h by omega]
  have e3 : digW mi 2 = Stm.d2 mi := by rw [digW_2 mi (by omega), show mi % 100 = mi by omega]
  have e4 : digW s 2 = Stm.d2 s := by rw [digW_2 s (by omega), show s % 100 = s by omega]
  have e5 : digW y 4 = Stm.d4 y := digW_4 y (by omega) y1
  have e6 : digW y 2 = Stm.d2 (y % 100) := digW_2 y (by omega)
  have : form = 0 ∨ form = 1 ∨ form = 2 := by omega
  rcases this with rfl | rfl | rfl
  · simp [patL, wrc, writeL, Stm.txt, Stm.clk, e1, e2, e3, e4, e5]
  · simp [patL, wrc, writeL, Stm.txt, Stm.clk, e1, e2, e3, e4, e6]
  · by_cases hd : d < 10
    · have e7 : digW d 1 = [UInt8.ofNat (48 + d.toNat)] := digW_1 d (by omega) (by omega)
      simp [patL, wrc, writeL, Stm.txt, Stm.clk, e2, e3, e4, e5, e7, hd]
    · simp [patL, wrc, writeL, Stm.txt, Stm.clk, e1, e2, e3, e4, e5, hd]

theorem name_len (l : List (List UInt8)) (hl : ∀ x ∈ l, x.length ≤ 9) (n : Nat) : (l.getD n []).length ≤ 9 := by
  rw [List.getD_eq_getElem?_getD]
  cases h : l[n]? with
  | none => simp
  | some x => exact hl x (List.mem_of_getElem? h)
theorem long_len (n : Nat) : (Stm.longN.getD n []).length ≤ 9 := name_len _ (by decide) n
theorem short_len (n : Nat) : (Stm.shortN.getD n []).length ≤ 9 := name_len _ (by decide) n
theorem mon_len (n : Nat) : (Stm.monN.getD n []).length ≤ 9 := name_len _ (by decide) n
theorem wrc_len (y mo d h mi s wd : Int) (c : UInt8) : (wrc y mo d h mi s wd c).length ≤ 9 := by
  unfold wrc
  have a := long_len wd.toNat
  have b := short_len wd.toNat
  have e := mon_len (mo - 1).toNat
  repeat' split
  all_goals simp_all [digW_len]
theorem extract_one (p : ByteArray) (k : Nat) (h : k < p.size) : p.extract k (k + 1) = bs [p[k]] := by
  rw [extract_bs, L_take h]
  congr 1
  rw [List.drop_append_of_le_length (by rw [List.length_take, L_length]; omega), List.drop_of_length_le (by rw [List.length_take, L_length]; omega)]
  rfl
end Go.Proofs.YtkenianfpfamcaaGreatDoor
namespace Go.Proofs.YtkenianfpfamcaaGreatDoor
open Go Go.RowKit
set_option maxHeartbeats 2000000

theorem take_flat (f : UInt8 → List UInt8) (p : ByteArray) (k : Nat) (h : k < p.size) : ((L p).take (k + 1)).flatMap f = ((L p).take k).flatMap f ++ f p[k] := by
  rw [L_take h]; simp
theorem flat_len (f : UInt8 → List UInt8) (hf : ∀ c, (f c).length ≤ 9) (l : List UInt8) : (l.flatMap f).length ≤ 9 * l.length := by
  induction l with
  | nil => simp
  | cons c l ih => rw [List.flatMap_cons, List.length_append, List.length_cons]; have := hf c; omega

theorem pick_cases (c : UInt8) : c = 119 ∨ c = 108 ∨ c = 109 ∨ c = 100 ∨ c = 101 ∨ c = 121 ∨ c = 99 ∨ c = 104 ∨ c = 105 ∨ c = 115 ∨ (c ≠ 119 ∧ c ≠ 108 ∧ c ≠ 109 ∧ c ≠ 100 ∧ c ≠ 101 ∧ c ≠ 121 ∧ c ≠ 99 ∧ c ≠ 104 ∧ c ≠ 105 ∧ c ≠ 115) := by
  exact if h0 : c = 119 then Or.inl h0 else Or.inr (if h1 : c = 108 then Or.inl h1 else Or.inr (if h2 : c = 109 then Or.inl h2 else Or.inr (if h3 : c = 100 then Or.inl h3 else Or.inr (if h4 : c = 101 then Or.inl h4 else Or.inr (if h5 : c = 121 then Or.inl h5 else Or.inr (if h6 : c = 99 then Or.inl h6 else Or.inr (if h7 : c = 104 then Or.inl h7 else Or.inr (if h8 : c = 105 then Or.inl h8 else Or.inr (if h9 : c = 115 then Or.inl h9 else Or.inr (⟨h0, h1, h2, h3, h4, h5, h6, h7, h8, h9⟩))))))))))
theorem byte_ne {c : UInt8} {n : Nat} {hn : n < 256} (h : c ≠ UInt8.ofNatLT n hn) : ((c.toNat : Int) == (n : Int)) = false := by
  rw [beq_eq_false_iff_ne]
  intro e
  apply h
  apply UInt8.toNat_inj.1
  have : c.toNat = n := by exact_mod_cast e
  rw [this]; rfl

set_option maxRecDepth 100000 in
theorem rwrite_any (m form : Int) (w : World) :
    Calls Tryz.prog 62 #[.int .i64 m, .int .i64 form] w fun e w' => e = .returned (writeV m form) ∧ Below w.heap.size w w' := by
  obtain ⟨V, hV⟩ := name_it (writeV m form)
  rw [hV.out]
  by_cases hm : isMom m = true
  · obtain ⟨y, mo, d, h, mi, s, wd, HD, HW, HE, ⟨y0, y1⟩, ⟨mo0, mo1⟩, ⟨d0, d1⟩, ⟨h0, h1⟩, ⟨mi0, mi1⟩, ⟨s0, s1⟩, ⟨wd0, wd1⟩⟩ := date_of hm
    by_cases hf : 0 ≤ form ∧ form ≤ 2
    · obtain ⟨f, rfl⟩ := Int.eq_ofNat_of_zero_le hf.1
      have f2 : f < 3 := by omega
      obtain ⟨f0, f1⟩ := hf
      have hok : okForm f = true := by unfold okForm; exact decide_eq_true (by omega)
      have hflat := pat_write f f2 y mo d h mi s wd y0 y1 d0 d1 h0 h1 mi0 mi1 s0 s1
      have hres : Hid (V = .tuple #[.string (bs ((patL f).flatMap (wrc y mo d h mi s wd))), .int .i64 0]) := by
        rw [← hV.out, hflat]; unfold Hid writeV; rw [hm, hok]; simp only [if_true]; rw [← HW.out]; rfl
      clear hV hflat
      obtain ⟨p, hp⟩ := name_it (bs (patL f))
      have hpl : Hid (patL f = L p) := by rw [← hp.out]; rfl
      have hps : p.size ≤ 18 := by
        rw [← L_length, ← hpl.out]; unfold patL; split <;> (try split) <;> decide
      rw [hpl.out] at hres
      obtain ⟨F, hF⟩ := name_it (wrc y mo d h mi s wd)
      have hFl : Hid (∀ c, (F c).length ≤ 9) := by rw [← hF.out]; exact wrc_len y mo d h mi s wd
      rw [hF.out] at hres
      go_enter Tryz.func62, Tryz.ntmps62
      go_wp2_with fail
      refine (rsplit_any _ _).mono ?_; rintro e w1 ⟨rfl, hb1⟩
      rw [HD.out, HE.out]
      unfold dateV
      have A0 := Lib.hid (CellsAt.first w1 [.int .i64 y, .int .i64 mo, .int .i64 d, .int .i64 h, .int .i64 mi, .int .i64 s, .int .i64 wd] 157)
      have B0 := hb1.alloc hb1.size (.cells #[.int .i64 y, .int .i64 mo, .int .i64 d, .int .i64 h, .int .i64 mi, .int .i64 s, .int .i64 wd] 157)
      go_wp2_with fail
      refine (rpattern_any _ _).mono ?_; rintro e w2 ⟨rfl, rfl⟩
      rw [hp.out]
      go_wp2_with fail
      go_loopw [8, 10] (fun out i wq => ∃ (k : Nat), k ≤ p.size ∧ i = .int .i64 k ∧ out = .string (bs (((L p).take k).flatMap F)) ∧
        Hid (CellsAt wq w1.heap.size [.int .i64 y, .int .i64 mo, .int .i64 d, .int .i64 h, .int .i64 mi, .int .i64 s, .int .i64 wd]) ∧ Below w.heap.size w wq) (fun _ i _ => p.size - (intOf i).toNat)
      case atStart => exact ⟨0, Nat.zero_le _, rfl, rfl, A0, B0⟩
      case round =>
        obtain ⟨k, hk, rfl, rfl, A, hbr⟩ := hrel
        have hlen := flat_len F hFl.out ((L p).take k)
        have htk : ((L p).take k).length ≤ k := List.length_take_le _ _
        by_cases hlt : k < p.size
        · have HT := Lib.hid (take_flat F p k hlt)
          obtain ⟨o, ho⟩ := name_it (((L p).take k).flatMap F)
          rw [ho.out] at HT hlen ⊢
          have hos : (bs o).size ≤ 170 := by rw [size_bs]; omega
          obtain ⟨X, hX⟩ := name_it (F p[k])
          rw [hX.out] at HT
          have hXF : Hid (wrc y mo d h mi s wd p[k] = X) := by rw [hF.out]; exact hX
          have hXl : (bs X).size ≤ 9 := by
            rw [size_bs]; have := hFl.out p[k]; rw [hX.out] at this; exact this
          have hT2 : Hid (bs (((L p).take (k + 1)).flatMap F) = bs o ++ bs X) := by
            unfold Hid; rw [HT.out]; apply L_inj.1; simp [L, bs, ByteArray.data_append]
          clear HT hlen htk ho hX
          have c0 := A.out.cell 0 (by simp)
          have c1 := A.out.cell 1 (by simp)
          have c2 := A.out.cell 2 (by simp)
          have c3 := A.out.cell 3 (by simp)
          have c4 := A.out.cell 4 (by simp)
          have c5 := A.out.cell 5 (by simp)
          have c6 := A.out.cell 6 (by simp)
          simp only [List.getElem_cons_zero, List.getElem_cons_succ] at c0 c1 c2 c3 c4 c5 c6
          rcases pick_cases p[k] with hc | hc | hc | hc | hc | hc | hc | hc | hc | hc | hc
          · have hv : (p[k].toNat : Int) = 119 := by rw [hc]; rfl
            have hX2 : Hid (Stm.shortN.getD wd.toNat [] = X) := by rw [← hXF.out, hc]; rfl
            clear hXF hc
            go_wp2_with fail
            all_goals (try (exfalso; omega))
            refine (rshortI _ _ wd0 wd1).mono ?_; rintro e w3 ⟨rfl, hb3⟩
            rw [hX2.out]
            go_wp2_with fail
            all_goals (try (exfalso; omega))
            go_roundw
            case rel => exact ⟨k + 1, by omega, by go_num, by rw [hT2.out], Lib.hid (A.out.next hb3), hbr.trans (hb3.mono hbr.size)⟩
            case measure => simp [intOf]; omega
          · have hv : (p[k].toNat : Int) = 108 := by rw [hc]; rfl
            have hX2 : Hid (Stm.longN.getD wd.toNat [] = X) := by rw [← hXF.out, hc]; rfl
            clear hXF hc
            go_wp2_with fail
            all_goals (try (exfalso; omega))
            refine (rlongI _ _ wd0 wd1).mono ?_; rintro e w3 ⟨rfl, hb3⟩
            rw [hX2.out]
            go_wp2_with fail
            all_goals (try (exfalso; omega))
            go_roundw
            case rel => exact ⟨k + 1, by omega, by go_num, by rw [hT2.out], Lib.hid (A.out.next hb3), hbr.trans (hb3.mono hbr.size)⟩
            case measure => simp [intOf]; omega
          · have hv : (p[k].toNat : Int) = 109 := by rw [hc]; rfl
            have hX2 : Hid (Stm.monN.getD (mo - 1).toNat [] = X) := by rw [← hXF.out, hc]; rfl
            clear hXF hc
            go_wp2_with fail
            all_goals (try (exfalso; omega))
            refine (rmonthI _ _ (by omega) (by omega)).mono ?_; rintro e w3 ⟨rfl, rfl⟩
            rw [hX2.out]
            go_wp2_with fail
            all_goals (try (exfalso; omega))
            go_roundw
            case rel => exact ⟨k + 1, by omega, by go_num, by rw [hT2.out], A, hbr⟩
            case measure => simp [intOf]; omega
          · have hv : (p[k].toNat : Int) = 100 := by rw [hc]; rfl
            have hX2 : Hid (digW d 2 = X) := by rw [← hXF.out, hc]; rfl
            clear hXF hc
            go_wp2_with fail
            all_goals (try (exfalso; omega))
            refine (rdigs2 _ _ (by omega) (by omega)).mono ?_; rintro e w3 ⟨rfl, hb3⟩
            rw [hX2.out]
            go_wp2_with fail
            all_goals (try (exfalso; omega))
            go_roundw
            case rel => exact ⟨k + 1, by omega, by go_num, by rw [hT2.out], Lib.hid (A.out.next hb3), hbr.trans (hb3.mono hbr.size)⟩
            case measure => simp [intOf]; omega
          · have hv : (p[k].toNat : Int) = 101 := by rw [hc]; rfl
            by_cases hd : d < 10
            · have hX2 : Hid (⟨#[32]⟩ ++ bs (digW d 1) = bs X) := by
                rw [← hXF.out, hc]; unfold Hid; rw [show wrc y mo d h mi s wd 101 = 32 :: digW d 1 by simp [wrc, hd]]; apply L_inj.1; simp [L, bs, ByteArray.data_append]
              have hl1 : (bs (digW d 1)).size = 1 := by rw [size_bs, digW_len]
              clear hXF hc
              go_wp2_with fail
              all_goals (try (exfalso; omega))
              refine (rdigs1 _ _ (by omega) (by omega)).mono ?_; rintro e w3 ⟨rfl, hb3⟩
              obtain ⟨Z, hZ⟩ := name_it (bs (digW d 1))
              rw [hZ.out] at hX2 hl1 ⊢
              go_wp2_with fail
              all_goals (try (exfalso; omega))
              go_roundw
              case rel => exact ⟨k + 1, by omega, by go_num, by rw [hT2.out, ← hX2.out], Lib.hid (A.out.next hb3), hbr.trans (hb3.mono hbr.size)⟩
              case measure => simp [intOf]; omega
            · have hX2 : Hid (digW d 2 = X) := by rw [← hXF.out, hc]; unfold Hid; simp [wrc, hd]
              clear hXF hc
              go_wp2_with fail
              all_goals (try (exfalso; omega))
              refine (rdigs2 _ _ (by omega) (by omega)).mono ?_; rintro e w3 ⟨rfl, hb3⟩
              rw [hX2.out]
              go_wp2_with fail
              all_goals (try (exfalso; omega))
              go_roundw
              case rel => exact ⟨k + 1, by omega, by go_num, by rw [hT2.out], Lib.hid (A.out.next hb3), hbr.trans (hb3.mono hbr.size)⟩
              case measure => simp [intOf]; omega
          · have hv : (p[k].toNat : Int) = 121 := by rw [hc]; rfl
            have hX2 : Hid (digW y 4 = X) := by rw [← hXF.out, hc]; rfl
            clear hXF hc
            go_wp2_with fail
            all_goals (try (exfalso; omega))
            refine (rdigs4 _ _ (by omega) (by omega)).mono ?_; rintro e w3 ⟨rfl, hb3⟩
            rw [hX2.out]
            go_wp2_with fail
            all_goals (try (exfalso; omega))
            go_roundw
            case rel => exact ⟨k + 1, by omega, by go_num, by rw [hT2.out], Lib.hid (A.out.next hb3), hbr.trans (hb3.mono hbr.size)⟩
            case measure => simp [intOf]; omega
          · have hv : (p[k].toNat : Int) = 99 := by rw [hc]; rfl
            have hX2 : Hid (digW y 2 = X) := by rw [← hXF.out, hc]; rfl
            clear hXF hc
            go_wp2_with fail
            all_goals (try (exfalso; omega))
            refine (rdigs2 _ _ (by omega) (by omega)).mono ?_; rintro e w3 ⟨rfl, hb3⟩
            rw [hX2.out]
            go_wp2_with fail
            all_goals (try (exfalso; omega))
            go_roundw
            case rel => exact ⟨k + 1, by omega, by go_num, by rw [hT2.out], Lib.hid (A.out.next hb3), hbr.trans (hb3.mono hbr.size)⟩
            case measure => simp [intOf]; omega
          · have hv : (p[k].toNat : Int) = 104 := by rw [hc]; rfl
            have hX2 : Hid (digW h 2 = X) := by rw [← hXF.out, hc]; rfl
            clear hXF hc
            go_wp2_with fail
            all_goals (try (exfalso; omega))
            refine (rdigs2 _ _ (by omega) (by omega)).mono ?_; rintro e w3 ⟨rfl, hb3⟩
            rw [hX2.out]
            go_wp2_with fail
            all_goals (try (exfalso; omega))
            go_roundw
            case rel => exact ⟨k + 1, by omega, by go_num, by rw [hT2.out], Lib.hid (A.out.next hb3), hbr.trans (hb3.mono hbr.size)⟩
            case measure => simp [intOf]; omega
          · have hv : (p[k].toNat : Int) = 105 := by rw [hc]; rfl
            have hX2 : Hid (digW mi 2 = X) := by rw [← hXF.out, hc]; rfl
            clear hXF hc
            go_wp2_with fail
            all_goals (try (exfalso; omega))
            refine (rdigs2 _ _ (by omega) (by omega)).mono ?_; rintro e w3 ⟨rfl, hb3⟩
            rw [hX2.out]
            go_wp2_with fail
            all_goals (try (exfalso; omega))
            go_roundw
            case rel => exact ⟨k + 1, by omega, by go_num, by rw [hT2.out], Lib.hid (A.out.next hb3), hbr.trans (hb3.mono hbr.size)⟩
            case measure => simp [intOf]; omega
          · have hv : (p[k].toNat : Int) = 115 := by rw [hc]; rfl
            have hX2 : Hid (digW s 2 = X) := by rw [← hXF.out, hc]; rfl
            clear hXF hc
            go_wp2_with fail
            all_goals (try (exfalso; omega))
            refine (rdigs2 _ _ (by omega) (by omega)).mono ?_; rintro e w3 ⟨rfl, hb3⟩
            rw [hX2.out]
            go_wp2_with fail
            all_goals (try (exfalso; omega))
            go_roundw
            case rel => exact ⟨k + 1, by omega, by go_num, by rw [hT2.out], Lib.hid (A.out.next hb3), hbr.trans (hb3.mono hbr.size)⟩
            case measure => simp [intOf]; omega
          · obtain ⟨q0, q1, q2, q3, q4, q5, q6, q7, q8, q9⟩ := hc
            have v0 : ((p[k].toNat : Int) == 119) = false := byte_ne q0
            have v1 : ((p[k].toNat : Int) == 108) = false := byte_ne q1
            have v2 : ((p[k].toNat : Int) == 109) = false := byte_ne q2
            have v3 : ((p[k].toNat : Int) == 100) = false := byte_ne q3
            have v4 : ((p[k].toNat : Int) == 101) = false := byte_ne q4
            have v5 : ((p[k].toNat : Int) == 121) = false := byte_ne q5
            have v6 : ((p[k].toNat : Int) == 99) = false := byte_ne q6
            have v7 : ((p[k].toNat : Int) == 104) = false := byte_ne q7
            have v8 : ((p[k].toNat : Int) == 105) = false := byte_ne q8
            have v9 : ((p[k].toNat : Int) == 115) = false := byte_ne q9
            have hX2 : Hid (p.extract k (k + 1) = bs X) := by rw [← hXF.out, extract_one p k hlt]; unfold Hid wrc; simp [q0, q1, q2, q3, q4, q5, q6, q7, q8, q9]
            clear hXF q0 q1 q2 q3 q4 q5 q6 q7 q8 q9
            go_wp2_with fail
            all_goals (try (exfalso; omega))
            go_roundw
            case rel => exact ⟨k + 1, by omega, by go_num, by rw [hT2.out, ← hX2.out], A, hbr⟩
            case measure => simp [intOf]; omega
        · obtain rfl : k = p.size := by omega
          have hr2 : Hid (V = .tuple #[.string (bs (((L p).take p.size).flatMap F)), .int .i64 0]) := by rw [L_take_all]; exact hres
          go_wp2_with fail
          all_goals (try (exfalso; omega))
          go_ret2
          exact ⟨by rw [hr2.out]; rfl, hbr⟩
    · have hok : okForm form = false := by unfold okForm; exact decide_eq_false hf
      have hres : Hid (V = .tuple #[.string ⟨#[]⟩, .int .i64 44]) := by
        rw [← hV.out]; unfold Hid writeV; rw [hm, hok]; rfl
      have hcase : form < 0 ∨ (0 ≤ form ∧ 2 < form) := by omega
      clear hf hV
      rcases hcase with hf | ⟨hf, hf'⟩
      all_goals
        go_enter Tryz.func62, Tryz.ntmps62
        go_wp2_with fail
        refine (rsplit_any _ _).mono ?_; rintro e w1 ⟨rfl, hb1⟩
        rw [HD.out, HE.out]
        unfold dateV
        go_wp2_with fail
        all_goals (try (exfalso; omega))
        go_ret2
        exact ⟨by rw [hres.out]; rfl, hb1.alloc hb1.size _⟩
  · have hm : isMom m = false := by simpa using hm
    have hres : Hid (V = .tuple #[.string ⟨#[]⟩, .int .i64 40]) := by
      rw [← hV.out]; unfold Hid writeV; rw [hm]; rfl
    have HE : Hid (splitE m = 40 ∧ splitD m = dateV 0 0 0 0 0 0 0) := by unfold Hid splitE splitD; rw [hm]; exact ⟨rfl, rfl⟩
    go_enter Tryz.func62, Tryz.ntmps62
    go_wp2_with fail
    refine (rsplit_any _ _).mono ?_; rintro e w1 ⟨rfl, hb1⟩
    rw [HE.out.1, HE.out.2]
    unfold dateV
    go_wp2_with fail
    go_ret2
    exact ⟨by rw [hres.out]; rfl, hb1.alloc hb1.size _⟩
end Go.Proofs.YtkenianfpfamcaaGreatDoor
namespace Go.Proofs.YtkenianfpfamcaaGreatDoor
open Go Go.RowKit
set_option maxHeartbeats 1000000


theorem dec1 (n : Nat) (h : n ≤ 9) : Lib.decDigits n = [UInt8.ofNat (48 + n)] := by
  rw [Lib.decDigits, dif_pos (show n < 10 by omega)]
theorem decS (n : Nat) (h : 10 ≤ n) : Lib.decDigits n = Lib.decDigits (n / 10) ++ [UInt8.ofNat (48 + n % 10)] := by
  rw [Lib.decDigits, dif_neg (show ¬ n < 10 by omega)]
theorem dec_two (n : Nat) (h : 10 ≤ n) (h1 : n ≤ 99) : Lib.decDigits n = Stm.d2 n := by
  rw [decS n h, dec1 _ (by omega)]
  unfold Stm.d2
  rw [show ((n : Int) / 10).toNat = n / 10 by omega, show ((n : Int) % 10).toNat = n % 10 by omega]
  rfl
/-- a number of two digits, of another sign in place of a 0 ahead -/
def twoL (c : UInt8) (n : Int) : List UInt8 := if n < 10 then c :: [UInt8.ofNat (48 + n.toNat)] else Stm.d2 n
theorem twoL_len (c : UInt8) (n : Int) : (twoL c n).length = 2 := by unfold twoL; split <;> rfl
theorem twoL_48 (n : Int) (h0 : 0 ≤ n) : twoL 48 n = Stm.d2 n := by
  unfold twoL
  split
  · unfold Stm.d2
    rw [show (n / 10).toNat = 0 by omega, show n % 10 = n by omega]; rfl
  · rfl
theorem two_any (n : Int) (c : UInt8) (w : World) (h0 : 0 ≤ n) (h1 : n ≤ 99) :
    Calls Tryz.prog 139 #[.int .i64 n, .string ⟨#[c]⟩] w fun e w' => e = .returned (.string (bs (twoL c n))) ∧ w = w' := by
  obtain ⟨k, rfl⟩ := Int.eq_ofNat_of_zero_le h0
  obtain ⟨R, hR⟩ := name_it (twoL c k)
  rw [hR.out]
  by_cases hk : k < 10
  · have hf : Hid ((⟨#[c]⟩ : ByteArray) ++ ⟨(Lib.decDigits k).toArray⟩ = bs R) := by
      rw [← hR.out, dec1 k (by omega)]; unfold Hid twoL; rw [if_pos (by omega)]; rfl
    have hs : (ByteArray.mk (Lib.decDigits k).toArray).size = 1 := by rw [dec1 k (by omega)]; rfl
    go_enter Tryz.func139, Tryz.ntmps139
    go_wp2_with fail
    all_goals (try (exfalso; omega))
    refine (Tryz.strconv_Itoa_small k (by omega) _).mono ?_; rintro e w1 ⟨rfl, rfl⟩
    obtain ⟨Z, hZ⟩ := name_it (ByteArray.mk (Lib.decDigits k).toArray)
    rw [hZ.out] at hf hs ⊢
    have hc1 : (ByteArray.mk #[c]).size = 1 := rfl
    go_wp2_with fail
    all_goals (try (exfalso; omega))
    go_ret
    exact ⟨by rw [← hf.out]; rfl, rfl⟩
  · have hf : Hid (ByteArray.mk (Lib.decDigits k).toArray = bs R) := by
      rw [← hR.out, dec_two k (by omega) (by omega)]; unfold Hid twoL; rw [if_neg (by omega)]; rfl
    go_enter Tryz.func139, Tryz.ntmps139
    go_wp2_with fail
    all_goals (try (exfalso; omega))
    refine (Tryz.strconv_Itoa_small k (by omega) _).mono ?_; rintro e w1 ⟨rfl, rfl⟩
    go_wp2_with fail
    all_goals (try (exfalso; omega))
    go_ret
    exact ⟨by rw [← hf.out]; rfl, rfl⟩

/-! strconv.Itoa and strings.Repeat at a year -/
theorem grow_below (w : World) (k : Nat) (os : Array Obj) : Below w.heap.size w (Sort.grow (w.drewN k) os) :=
  ⟨rfl, rfl, rfl, by show w.heap.size ≤ (w.heap ++ os).size; rw [Array.size_append]; omega, fun j hj => by
    show (w.heap ++ os)[j]? = _
    rw [Array.getElem?_append_left hj]⟩
def itoaL (n : Int) : List UInt8 := Lib.itoa n
theorem itoa_y (n : Int) (w : World) (h0 : 0 ≤ n) (h1 : n ≤ 9999) (hE : EnvS w) :
    Calls Tryz.prog 52 #[.int .i64 n] w fun e w' => e = .returned (.string (bs (itoaL n))) ∧ Below w.heap.size w w' := by
  refine (Tryz.strconv_Itoa n (by omega) (by omega) w hE.pow).mono ?_
  rintro e w1 ⟨rfl, k, os, rfl⟩
  exact ⟨rfl, grow_below w k os⟩
theorem itoa_four (n : Int) (h0 : 1 ≤ n) (h1 : n ≤ 9999) : (itoaL n).length ≤ 4 ∧ 1 ≤ (itoaL n).length ∧ List.replicate (4 - (itoaL n).length) 48 ++ itoaL n = Stm.d4 n := by
  obtain ⟨k, rfl⟩ := Int.eq_ofNat_of_zero_le (show 0 ≤ n by omega)
  have e : itoaL k = Lib.decDigits k := by unfold itoaL Lib.itoa; rw [if_neg (by omega)]; rfl
  rw [e]
  have hd : Stm.d4 k = [UInt8.ofNat (48 + k / 1000), UInt8.ofNat (48 + k / 100 % 10), UInt8.ofNat (48 + k / 10 % 10), UInt8.ofNat (48 + k % 10)] := by
    unfold Stm.d4 Stm.d2
    rw [show ((k : Int) / 100 / 10).toNat = k / 1000 by omega, show ((k : Int) / 100 % 10).toNat = k / 100 % 10 by omega, show ((k : Int) % 100 / 10).toNat = k / 10 % 10 by omega, show ((k : Int) % 100 % 10).toNat = k % 10 by omega]
    rfl
  rw [hd]
  by_cases a : k ≤ 9
  · rw [dec1 k a, show k / 1000 = 0 by omega, show k / 100 % 10 = 0 by omega, show k / 10 % 10 = 0 by omega, show k % 10 = k by omega]
    exact ⟨by simp, by simp, rfl⟩
  · by_cases b : k ≤ 99
    · rw [decS k (by omega), dec1 (k / 10) (by omega), show k / 1000 = 0 by omega, show k / 100 % 10 = 0 by omega, show k / 10 % 10 = k / 10 by omega]
      exact ⟨by simp, by simp, rfl⟩
    · by_cases c : k ≤ 999
      · rw [decS k (by omega), decS (k / 10) (by omega), dec1 (k / 10 / 10) (by omega), show k / 1000 = 0 by omega, show k / 100 % 10 = k / 10 / 10 by omega]
        exact ⟨by simp, by simp, rfl⟩
      · rw [decS k (by omega), decS (k / 10) (by omega), decS (k / 10 / 10) (by omega), dec1 (k / 10 / 10 / 10) (by omega), show k / 1000 = k / 10 / 10 / 10 by omega, show k / 100 % 10 = k / 10 / 10 % 10 by omega]
        exact ⟨by simp, by simp, rfl⟩
set_option maxRecDepth 100000 in
theorem repeat0 (n : Nat) (w : World) (h : n < 4) :
    Calls Tryz.prog 140 #[.string ⟨#[48]⟩, .int .i64 n] w fun e w' => e = .returned (.string (bs (List.replicate n 48))) ∧ w = w' := by
  have : n = 0 ∨ n = 1 ∨ n = 2 ∨ n = 3 := by omega
  rcases this with rfl | rfl | rfl | rfl
  · go_enter Tryz.func140, Tryz.ntmps140
    go_wp2_with fail
    go_ret
    exact ⟨rfl, rfl⟩
  · go_enter Tryz.func140, Tryz.ntmps140
    go_wp2_with fail
    go_ret
    exact ⟨rfl, rfl⟩
  · go_enter Tryz.func140, Tryz.ntmps140
    go_wp2_with fail
    refine (Tryz.bits_Mul 1 2 (by decide) (by decide) _).mono ?_; rintro e w1 ⟨rfl, rfl⟩
    go_wp2_with fail
    refine (Tryz.strings_HasPrefix _ _ _).mono ?_; rintro e w1 ⟨rfl, rfl⟩
    generalize hx : Lib.hasPrefix _ _ = b
    obtain rfl : b = false := by rw [← hx]; rfl
    clear hx
    go_wp2_with fail
    refine (Tryz.strings_HasPrefix _ _ _).mono ?_; rintro e w1 ⟨rfl, rfl⟩
    generalize hx : Lib.hasPrefix _ _ = b
    obtain rfl : b = false := by rw [← hx]; rfl
    clear hx
    go_wp2_with fail
    refine (Tryz.strings_HasPrefix _ _ _).mono ?_; rintro e w1 ⟨rfl, rfl⟩
    generalize hx : Lib.hasPrefix _ _ = b
    obtain rfl : b = true := by rw [← hx]; rfl
    clear hx
    go_wp2_with fail
    go_ret
    exact ⟨rfl, rfl⟩
  · go_enter Tryz.func140, Tryz.ntmps140
    go_wp2_with fail
    refine (Tryz.bits_Mul 1 3 (by decide) (by decide) _).mono ?_; rintro e w1 ⟨rfl, rfl⟩
    go_wp2_with fail
    refine (Tryz.strings_HasPrefix _ _ _).mono ?_; rintro e w1 ⟨rfl, rfl⟩
    generalize hx : Lib.hasPrefix _ _ = b
    obtain rfl : b = false := by rw [← hx]; rfl
    clear hx
    go_wp2_with fail
    refine (Tryz.strings_HasPrefix _ _ _).mono ?_; rintro e w1 ⟨rfl, rfl⟩
    generalize hx : Lib.hasPrefix _ _ = b
    obtain rfl : b = false := by rw [← hx]; rfl
    clear hx
    go_wp2_with fail
    refine (Tryz.strings_HasPrefix _ _ _).mono ?_; rintro e w1 ⟨rfl, rfl⟩
    generalize hx : Lib.hasPrefix _ _ = b
    obtain rfl : b = true := by rw [← hx]; rfl
    clear hx
    go_wp2_with fail
    go_ret
    exact ⟨rfl, rfl⟩
end Go.Proofs.YtkenianfpfamcaaGreatDoor
namespace Go.Proofs.YtkenianfpfamcaaGreatDoor
open Go Go.RowKit
set_option maxHeartbeats 4000000

structure Box7 (w w1 : World) (y mo d h mi s wd : Int) : Prop where
  cells : CellsAt w1 w.heap.size [.int .i64 y, .int .i64 mo, .int .i64 d, .int .i64 h, .int .i64 mi, .int .i64 s, .int .i64 wd]
  env : EnvS w1
  below : Below w.heap.size w w1
theorem Box7.next {w w1 w2 : World} {y mo d h mi s wd : Int} (B : Box7 w w1 y mo d h mi s wd) (hb : Below w1.heap.size w1 w2) : Box7 w w2 y mo d h mi s wd :=
  ⟨B.cells.next hb, B.env.next hb, B.below.trans (hb.mono B.below.size)⟩

theorem Box7.first {w : World} (h : EnvS w) (y mo d hh mi s wd : Int) (t : TypeId) : Box7 w (w.alloc (.cells #[.int .i64 y, .int .i64 mo, .int .i64 d, .int .i64 hh, .int .i64 mi, .int .i64 s, .int .i64 wd] t)) y mo d hh mi s wd :=
  ⟨CellsAt.first w [.int .i64 y, .int .i64 mo, .int .i64 d, .int .i64 hh, .int .i64 mi, .int .i64 s, .int .i64 wd] t, h.alloc _, (Below.refl _ _).alloc (Nat.le_refl _) _⟩
theorem Box7.drewN {w w1 : World} {y mo d h mi s wd : Int} (B : Box7 w w1 y mo d h mi s wd) (n : Nat) : Box7 w (w1.drewN n) y mo d h mi s wd := B.next (below_of_drewN n)
theorem Box7.get {w w1 : World} {y mo d h mi s wd : Int} (B : Box7 w w1 y mo d h mi s wd) : w1.cell? ⟨w.heap.size, 0, none⟩ = some (.int .i64 y) ∧ w1.cell? ⟨w.heap.size, 1, none⟩ = some (.int .i64 mo) ∧ w1.cell? ⟨w.heap.size, 2, none⟩ = some (.int .i64 d) ∧ w1.cell? ⟨w.heap.size, 3, none⟩ = some (.int .i64 h) ∧ w1.cell? ⟨w.heap.size, 4, none⟩ = some (.int .i64 mi) ∧ w1.cell? ⟨w.heap.size, 5, none⟩ = some (.int .i64 s) ∧ w1.cell? ⟨w.heap.size, 6, none⟩ = some (.int .i64 wd) :=
  ⟨B.cells.cell 0 (by simp), B.cells.cell 1 (by simp), B.cells.cell 2 (by simp), B.cells.cell 3 (by simp), B.cells.cell 4 (by simp), B.cells.cell 5 (by simp), B.cells.cell 6 (by simp)⟩
theorem quiet_left {P : Program} {f : FuncId} {args : Array Value} {w : World} {n : Nat} {v : Value}
    (h : Calls P f args (w.drewN n) fun e w' => e = .returned v ∧ w.drewN n = w') : Calls P f args (w.drewN n) fun e w'' => e = .returned v ∧ ∃ m, w'' = w.drewN m :=
  h.mono fun _ _ ⟨he, hm⟩ => ⟨he, n, hm.symm⟩
theorem two_q {n : Int} {c : UInt8} {x : ByteArray} (hx : Hid (bs (twoL c n) = x)) (h0 : 0 ≤ n) (h1 : n ≤ 99) (w : World) (k : Nat) :
    Calls Tryz.prog 139 #[.int .i64 n, .string ⟨#[c]⟩] (w.drewN k) fun e w' => e = .returned (.string x) ∧ ∃ m, w' = w.drewN m := by
  rw [← hx.out]
  exact quiet_left (two_any n c _ h0 h1)

theorem clk_eq {h mi s : Int} (h0 : 0 ≤ h) (m0 : 0 ≤ mi) (s0 : 0 ≤ s) : bs (Stm.clk h mi s) = bs (twoL 48 h) ++ ⟨#[58]⟩ ++ bs (twoL 48 mi) ++ ⟨#[58]⟩ ++ bs (twoL 48 s) := by
  rw [twoL_48 h h0, twoL_48 mi m0, twoL_48 s s0]
  apply L_inj.1
  simp [L, bs, ByteArray.data_append, Stm.clk]
theorem itoa_b {n : Int} {x : ByteArray} {w w1 : World} {y mo d h mi s wd : Int} (hx : Hid (bs (itoaL n) = x)) (h0 : 0 ≤ n) (h1 : n ≤ 9999) (B : Box7 w w1 y mo d h mi s wd) :
    Calls Tryz.prog 52 #[.int .i64 n] w1 fun e w' => e = .returned (.string x) ∧ Box7 w w' y mo d h mi s wd := by
  rw [← hx.out]
  exact (itoa_y n w1 h0 h1 B.env).mono fun e w' ⟨he, hb⟩ => ⟨he, B.next hb⟩
theorem repeat_b {n : Int} {x : ByteArray} {w w1 : World} {y mo d h mi s wd : Int} (hx : Hid (bs (List.replicate n.toNat 48) = x)) (h0 : 0 ≤ n) (h1 : n < 4) (B : Box7 w w1 y mo d h mi s wd) :
    Calls Tryz.prog 140 #[.string ⟨#[48]⟩, .int .i64 n] w1 fun e w' => e = .returned (.string x) ∧ Box7 w w' y mo d h mi s wd := by
  rw [← hx.out]
  obtain ⟨k, rfl⟩ := Int.eq_ofNat_of_zero_le h0
  exact (repeat0 k w1 (by omega)).mono fun e w' ⟨he, hb⟩ => ⟨he, hb ▸ B⟩

theorem short_of (k : Nat) (hk : k < 7) : bs (Stm.shortN.getD k []) = (bs (Stm.longN.getD k [])).extract 0 3 ∧ (3 : Int) ≤ (bs (Stm.longN.getD k [])).size := by
  have : k = 0 ∨ k = 1 ∨ k = 2 ∨ k = 3 ∨ k = 4 ∨ k = 5 ∨ k = 6 := by omega
  rcases this with rfl | rfl | rfl | rfl | rfl | rfl | rfl <;> exact ⟨rfl, by decide⟩
theorem text0 (k j : Nat) (hk : k < 7) (y d h mi s : Int) (d0 : 0 ≤ d) : bs (writeL 0 y ((j : Int) + 1) d h mi s k) = (bs (Stm.longN.getD k [])).extract 0 3 ++ ⟨#[44, 32]⟩ ++ bs (twoL 48 d) ++ ⟨#[32]⟩ ++ bs (Stm.monN.getD j []) ++ ⟨#[32]⟩ ++ bs (Stm.d4 y) ++ ⟨#[32]⟩ ++ bs (Stm.clk h mi s) ++ ⟨#[32, 71, 77, 84]⟩ := by
  rw [← (short_of k hk).1, twoL_48 d d0]
  unfold writeL
  rw [show ((j : Int) + 1 - 1).toNat = j by omega, show (k : Int).toNat = k by omega]
  apply L_inj.1
  simp [L, bs, ByteArray.data_append, Stm.txt]
theorem text1 (k j : Nat) (y d h mi s : Int) (d0 : 0 ≤ d) : bs (writeL 1 y ((j : Int) + 1) d h mi s k) = bs (Stm.longN.getD k []) ++ ⟨#[44, 32]⟩ ++ bs (twoL 48 d) ++ ⟨#[45]⟩ ++ bs (Stm.monN.getD j []) ++ ⟨#[45]⟩ ++ (bs (Stm.d4 y)).extract 2 4 ++ ⟨#[32]⟩ ++ bs (Stm.clk h mi s) ++ ⟨#[32, 71, 77, 84]⟩ := by
  rw [show (bs (Stm.d4 y)).extract 2 4 = bs (Stm.d2 (y % 100)) from rfl, twoL_48 d d0]
  unfold writeL
  rw [show ((j : Int) + 1 - 1).toNat = j by omega, show (k : Int).toNat = k by omega]
  apply L_inj.1
  simp [L, bs, ByteArray.data_append, Stm.txt]
theorem text2 (k j : Nat) (hk : k < 7) (y d h mi s : Int) : bs (writeL 2 y ((j : Int) + 1) d h mi s k) = (bs (Stm.longN.getD k [])).extract 0 3 ++ ⟨#[32]⟩ ++ bs (Stm.monN.getD j []) ++ ⟨#[32]⟩ ++ bs (twoL 32 d) ++ ⟨#[32]⟩ ++ bs (Stm.clk h mi s) ++ ⟨#[32]⟩ ++ bs (Stm.d4 y) := by
  rw [← (short_of k hk).1]
  unfold writeL twoL
  rw [show ((j : Int) + 1 - 1).toNat = j by omega, show (k : Int).toNat = k by omega]
  apply L_inj.1
  by_cases hd : d < 10 <;> simp [L, bs, ByteArray.data_append, Stm.txt, hd]

set_option maxRecDepth 100000 in
theorem write_any (m form : Int) (w : World) (hE : EnvS w) :
    Calls Tryz.prog 94 #[.int .i64 m, .int .i64 form] w fun e w' => e = .returned (writeV m form) ∧ Below w.heap.size w w' := by
  obtain ⟨V, hV⟩ := name_it (writeV m form)
  rw [hV.out]
  have HEnv := Lib.hid hE; clear hE
  by_cases hm : isMom m = true
  · obtain ⟨y, mo, d, h, mi, s, wd, HD, HW, HE, ⟨y0, y1⟩, ⟨mo0, mo1⟩, ⟨d0, d1⟩, ⟨h0, h1⟩, ⟨mi0, mi1⟩, ⟨s0, s1⟩, ⟨wd0, wd1⟩⟩ := date_of hm
    obtain ⟨k, rfl⟩ := Int.eq_ofNat_of_zero_le wd0
    obtain ⟨j, hj⟩ : ∃ j : Nat, mo = (j : Int) + 1 := ⟨(mo - 1).toNat, by omega⟩
    subst hj
    have hk7 : k < 7 := by omega
    have hj12 : j < 12 := by omega
    go_enter Tryz.func94, Tryz.ntmps94
    go_wp2_with fail
    refine (split_any _ _).mono ?_; rintro e w1 ⟨rfl, hb1⟩
    rw [HD.out, HE.out]
    unfold dateV
    have HE1 := Lib.hid (HEnv.out.next hb1)
    have hwk := HE1.out.week k hk7
    have hmo := HE1.out.mon j hj12
    obtain ⟨nm, hnm⟩ := name_it (Stm.longN.getD k [])
    obtain ⟨mn, hmn⟩ := name_it (Stm.monN.getD j [])
    rw [hnm.out] at hwk
    rw [hmn.out] at hmo
    have hn : 0 < w1.heap.size := Nat.lt_of_lt_of_le (by decide) HE1.out.n
    have hn1 : 1 < w1.heap.size := Nat.lt_of_lt_of_le (by decide) HE1.out.n
    go_wp2_with fail
    go_quiet (fail)
    have B := Lib.hid ((Box7.first HE1.out y ((j : Int) + 1) d h mi s k 171).drewN nq)
    generalize World.drewN _ nq = w2 at B ⊢
    clear hwk hmo
    obtain ⟨c0, c1, c2, c3, c4, c5, c6⟩ := B.out.get
    obtain ⟨xh, hxh⟩ := name_it (bs (twoL 48 h))
    obtain ⟨xm, hxm⟩ := name_it (bs (twoL 48 mi))
    obtain ⟨xs, hxs⟩ := name_it (bs (twoL 48 s))
    have zh : xh.size = 2 := by rw [← hxh.out, size_bs, twoL_len]
    have zm : xm.size = 2 := by rw [← hxm.out, size_bs, twoL_len]
    have zs : xs.size = 2 := by rw [← hxs.out, size_bs, twoL_len]
    go_wp2_with fail
    go_quiet ((go_at_call 139; first | (with_reducible exact two_q hxh h0 (by omega) _ _) | (with_reducible exact two_q hxm mi0 (by omega) _ _) | (with_reducible exact two_q hxs s0 (by omega) _ _)))
    have Hck := Lib.hid (clk_eq h0 mi0 s0)
    rw [hxh.out, hxm.out, hxs.out] at Hck
    obtain ⟨ck, hck⟩ := name_it (xh ++ ⟨#[58]⟩ ++ xm ++ ⟨#[58]⟩ ++ xs)
    rw [hck.out] at Hck ⊢
    have zc : ck.size = 8 := by rw [← hck.out]; simp only [ByteArray.size_append, zh, zm, zs]; rfl
    have B2 := Lib.hid (B.out.drewN nq)
    generalize World.drewN _ nq = w3 at B2 ⊢
    clear c0 c1 c2 c3 c4 c5 c6 B zh zm zs hxh hxm hxs hck
    obtain ⟨c0, c1, c2, c3, c4, c5, c6⟩ := B2.out.get
    obtain ⟨q1, q2, q3⟩ := itoa_four y y0 y1
    obtain ⟨x, hx⟩ := name_it (bs (itoaL y))
    have zx : (x.size : Int) ≤ 4 := by rw [← hx.out, size_bs]; omega
    have zx1 : 1 ≤ (x.size : Int) := by rw [← hx.out, size_bs]; omega
    obtain ⟨rp, hrp⟩ := name_it (bs (List.replicate (4 - (x.size : Int)).toNat 48))
    have zr : rp.size ≤ 4 := by rw [← hrp.out, size_bs, List.length_replicate]; omega
    have Hyr : Hid (bs (Stm.d4 y) = rp ++ x) := by
      rw [← q3, ← hrp.out, ← hx.out, size_bs, show (4 - ((itoaL y).length : Int)).toNat = 4 - (itoaL y).length by omega]
      apply L_inj.1; simp [L, bs, ByteArray.data_append]
    clear q1 q2 q3
    have hwr : IntKind.i64.wrap (4 - (x.size : Int)) = 4 - (x.size : Int) := IntWalk.i64_in _ (by omega)
    have hcat : ¬ 9223372036854775807 < rp.size + x.size := by omega
    have B3 := Lib.hid (B2.out.next (Below.refl _ _).drew)
    go_wp2_with fail
    go_region_held3 (fun w' => w'.cell? ⟨w1.heap.size, 0, none⟩ = some (.int .i64 y) ∧ Hid (Box7 w1 w' y ((j : Int) + 1) d h mi s k))
      (first | exact ⟨B3.out.get.1, B3⟩ | exact ⟨B'.out.get.1, B'⟩ | go_keep)
      (first | (go_at_call 52; refine (itoa_b hx (by omega) y1 (by first | exact B3.out | exact Hid.out (by assumption))).mono ?_; rintro e w' ⟨rfl, B'⟩; have B' := Lib.hid B') | (go_at_call 140; (try rw [hwr]); refine (repeat_b hrp (by omega) (by omega) (by first | exact B3.out | exact Hid.out (by assumption))).mono ?_; rintro e w' ⟨rfl, B'⟩; have B' := Lib.hid B'))
    obtain ⟨yr, hyr⟩ := name_it (rp ++ x)
    have zy : yr.size = 4 := by
      have := congrArg ByteArray.size Hyr.out
      rw [hyr.out] at this
      rw [← this]; rfl
    rw [hyr.out] at Hyr ⊢
    have B4 := Lib.hid (B'.out.next (Below.refl _ _).drew)
    have hbw := hb1.trans ((B'.out.below).mono hb1.size)
    clear hx zx zx1 hrp zr hwr hcat hyr B3 c0 c1 c2 c3 c4 c5 c6 B2
    obtain ⟨c0, c1, c2, c3, c4, c5, c6⟩ := B'.out.get
    have Hs := short_of k hk7
    rw [hnm.out] at Hs
    have zn := Hs.2
    have zn9 : (bs nm).size ≤ 9 := by rw [← hnm.out, size_bs]; exact long_len k
    have zm9 : (bs mn).size ≤ 9 := by rw [← hmn.out, size_bs]; exact mon_len j
    clear Hs
    obtain ⟨n3, hn3⟩ := name_it ((bs nm).extract 0 3)
    have zn3 : n3.size ≤ 9 := by rw [← hn3.out, ByteArray.size_extract]; omega
    have T0 := Lib.hid (text0 k j hk7 y d h mi s (by omega))
    have T1 := Lib.hid (text1 k j y d h mi s (by omega))
    have T2 := Lib.hid (text2 k j hk7 y d h mi s)
    rw [hnm.out, hmn.out, Hyr.out, Hck.out, hn3.out] at T0 T2
    rw [hnm.out, hmn.out, Hyr.out, Hck.out] at T1
    obtain ⟨d48, hd48⟩ := name_it (bs (twoL 48 d))
    obtain ⟨d32, hd32⟩ := name_it (bs (twoL 32 d))
    have z48 : d48.size = 2 := by rw [← hd48.out, size_bs, twoL_len]
    have z32 : d32.size = 2 := by rw [← hd32.out, size_bs, twoL_len]
    rw [hd48.out] at T0 T1
    rw [hd32.out] at T2
    have hn3' : (bs nm).extract 0 3 = n3 := hn3.out
    by_cases f0 : form = 0
    · subst f0
      have hres : Hid (V = .tuple #[.string (n3 ++ ⟨#[44, 32]⟩ ++ d48 ++ ⟨#[32]⟩ ++ bs mn ++ ⟨#[32]⟩ ++ yr ++ ⟨#[32]⟩ ++ ck ++ ⟨#[32, 71, 77, 84]⟩), .int .i64 0]) := by
        rw [← hV.out, ← T0.out, ← HW.out]; unfold Hid writeV; rw [hm]; rfl
      clear hV T0 T1 T2
      go_wp2_with fail
      go_quiet ((go_at_call 139; first | (with_reducible exact two_q hd48 (by omega) (by omega) _ _)))
      go_wp2_with fail
      go_ret2
      exact ⟨by rw [hres.out]; rfl, below_drewN hbw _⟩
    · by_cases f1 : form = 1
      · subst f1
        have hres : Hid (V = .tuple #[.string (bs nm ++ ⟨#[44, 32]⟩ ++ d48 ++ ⟨#[45]⟩ ++ bs mn ++ ⟨#[45]⟩ ++ yr.extract 2 4 ++ ⟨#[32]⟩ ++ ck ++ ⟨#[32, 71, 77, 84]⟩), .int .i64 0]) := by
          rw [← hV.out, ← T1.out, ← HW.out]; unfold Hid writeV; rw [hm]; rfl
        clear hV T0 T1 T2
        go_wp2_with fail
        go_quiet ((go_at_call 139; first | (with_reducible exact two_q hd48 (by omega) (by omega) _ _)))
        go_wp2_with fail
        go_ret2
        exact ⟨by rw [hres.out]; rfl, below_drewN hbw _⟩
      · by_cases f2 : form = 2
        · subst f2
          have hres : Hid (V = .tuple #[.string (n3 ++ ⟨#[32]⟩ ++ bs mn ++ ⟨#[32]⟩ ++ d32 ++ ⟨#[32]⟩ ++ ck ++ ⟨#[32]⟩ ++ yr), .int .i64 0]) := by
            rw [← hV.out, ← T2.out, ← HW.out]; unfold Hid writeV; rw [hm]; rfl
          clear hV T0 T1 T2
          go_wp2_with fail
          go_quiet ((go_at_call 139; first | (with_reducible exact two_q hd32 (by omega) (by omega) _ _)))
          go_wp2_with fail
          go_ret2
          exact ⟨by rw [hres.out]; rfl, below_drewN hbw _⟩
        · have hok : okForm form = false := by unfold okForm; rw [decide_eq_false_iff_not]; omega
          have hres : Hid (V = .tuple #[.string ⟨#[]⟩, .int .i64 44]) := by
            rw [← hV.out]; unfold Hid writeV; rw [hm, hok]; rfl
          clear hV T0 T1 T2
          have e0 : (form == 0) = false := by simpa using f0
          have e1 : (form == 1) = false := by simpa using f1
          have e2 : (form == 2) = false := by simpa using f2
          go_wp2_with fail
          go_ret2
          exact ⟨by rw [hres.out]; rfl, hbw⟩
  · have hm : isMom m = false := by simpa using hm
    have hres : Hid (V = .tuple #[.string ⟨#[]⟩, .int .i64 40]) := by
      rw [← hV.out]; unfold Hid writeV; rw [hm]; rfl
    have HE : Hid (splitE m = 40 ∧ splitD m = dateV 0 0 0 0 0 0 0) := by unfold Hid splitE splitD; rw [hm]; exact ⟨rfl, rfl⟩
    go_enter Tryz.func94, Tryz.ntmps94
    go_wp2_with fail
    refine (split_any _ _).mono ?_; rintro e w1 ⟨rfl, hb1⟩
    rw [HE.out.1, HE.out.2]
    unfold dateV
    go_wp2_with fail
    go_ret2
    exact ⟨by rw [hres.out]; rfl, hb1.alloc hb1.size _⟩
end Go.Proofs.YtkenianfpfamcaaGreatDoor
namespace Go.Proofs.YtkenianfpfamcaaGreatDoor
open Go Go.RowKit
set_option maxHeartbeats 2000000

theorem print_any (m : Int) (w : World) (hE : EnvS w) :
    Calls Tryz.prog 48 #[.int .i64 m] w fun e w' => e = .returned (writeV m 0) ∧ Below w.heap.size w w' := by
  have HE := Lib.hid hE
  obtain ⟨V, hV⟩ := name_it (bs (if isMom m then if okForm 0 then writeOf m (0 : Int).toNat else [] else []))
  obtain ⟨E, hEr⟩ := name_it (if isMom m then if okForm 0 then (0 : Int) else 44 else 40)
  unfold writeV
  rw [hV.out, hEr.out]
  go_enter Tryz.func48, Tryz.ntmps48
  go_wp2_with fail
  refine (write_any m 0 _ HE.out).mono ?_; rintro e w1 ⟨rfl, hb⟩
  unfold writeV
  rw [hV.out, hEr.out]
  go_wp2_with fail
  go_ret2
  exact ⟨rfl, hb⟩

theorem rbegins_any (s t : ByteArray) (a : Nat) (w : World) (ha : a ≤ s.size) (hs : s.size ≤ 1099511627) (ht : t.size ≤ 1000) :
    Calls Tryz.prog 198 #[.string s, .int .i64 a, .string t] w fun e w' => e = .returned (.bool ((L t).isPrefixOf ((L s).drop a))) ∧ w = w' := by
  obtain ⟨R, hR⟩ := name_it ((L t).isPrefixOf ((L s).drop a))
  rw [hR.out]
  by_cases h : a + t.size ≤ s.size
  · have hi : (a : Int) + (t.size : Int) ≤ (s.size : Int) := by omega
    have hf : Hid (((s.extract a (a + t.size)).toList == t.toList) = R) := by
      rw [str_eq, ← hR.out, extract_bs, L_bs]
      unfold Hid
      rw [Bool.eq_iff_iff, decide_eq_true_eq, List.isPrefixOf_iff_prefix, List.prefix_iff_eq_take, L_length, List.drop_take, Nat.add_sub_cancel_left]
      exact ⟨fun h => h.symm, fun h => h.symm⟩
    go_enter Tryz.func198, Tryz.ntmps198
    go_wp2_with fail
    all_goals (try (exfalso; omega))
    go_ret
    exact ⟨by rw [← hf.out]; rfl, rfl⟩
  · have hi : ¬ ((a : Int) + (t.size : Int) ≤ (s.size : Int)) := by omega
    have hf : Hid (R = false) := by
      rw [← hR.out]; unfold Hid
      rw [Bool.eq_false_iff]
      intro hp
      rw [List.isPrefixOf_iff_prefix] at hp
      have := hp.length_le
      rw [List.length_drop, L_length, L_length] at this
      omega
    go_enter Tryz.func198, Tryz.ntmps198
    go_wp2_with fail
    all_goals (try (exfalso; omega))
    go_ret
    exact ⟨by rw [hf.out]; rfl, rfl⟩

/-- in terms of the texts themselves -/
theorem rbegins_b (s : ByteArray) (t : List UInt8) (a : Nat) (w : World) (ha : a ≤ s.size) (hs : s.size ≤ 1099511627) (ht : t.length ≤ 1000) :
    Calls Tryz.prog 198 #[.string s, .int .i64 a, .string (bs t)] w fun e w' => e = .returned (.bool (t.isPrefixOf ((L s).drop a))) ∧ w = w' :=
  rbegins_any s (bs t) a w ha hs (by rw [size_bs]; exact ht)

theorem formFrom_step (t : List UInt8) (k : Nat) (h : k < 7) : Stm.formFrom t (Stm.longN.drop k) = if (Stm.shortN.getD k [] ++ [44]).isPrefixOf t then 0 else if (Stm.longN.getD k [] ++ [44]).isPrefixOf t then 1 else Stm.formFrom t (Stm.longN.drop (k + 1)) := by
  have : k = 0 ∨ k = 1 ∨ k = 2 ∨ k = 3 ∨ k = 4 ∨ k = 5 ∨ k = 6 := by omega
  rcases this with rfl | rfl | rfl | rfl | rfl | rfl | rfl <;> rfl
set_option maxRecDepth 100000 in
theorem rformOf_any (s : ByteArray) (w : World) (hs : s.size ≤ 1099511627) :
    Calls Tryz.prog 150 #[.string s] w fun e w' => e = .returned (.int .i64 (Stm.formOf (L s))) ∧ Below w.heap.size w w' := by
  obtain ⟨R, hR⟩ := name_it (Stm.formOf (L s))
  rw [hR.out]
  go_enter Tryz.func150, Tryz.ntmps150
  go_wp2_with fail
  go_loopw [3] (fun i wq => ∃ k : Nat, k ≤ 7 ∧ i = .int .i64 k ∧ Hid (Stm.formFrom (L s) (Stm.longN.drop k) = R) ∧ Below w.heap.size w wq) (fun i _ => 7 - (intOf i).toNat)
  case atStart => exact ⟨0, by omega, rfl, hR, Below.refl _ _⟩
  case round =>
    obtain ⟨k, hk, rfl, hk1, hbr⟩ := hrel
    by_cases hlt : k < 7
    · have hst := Lib.hid (formFrom_step (L s) k hlt)
      have l1 := short_len k
      have l2 := long_len k
      obtain ⟨n1, hn1⟩ := name_it (Stm.shortN.getD k [])
      obtain ⟨n2, hn2⟩ := name_it (Stm.longN.getD k [])
      rw [hn1.out] at l1 hst
      rw [hn2.out] at l2 hst
      have e1 : bs n1 ++ ⟨#[44]⟩ = bs (n1 ++ [44]) := by apply L_inj.1; simp [L, bs, ByteArray.data_append]
      have e2 : bs n2 ++ ⟨#[44]⟩ = bs (n2 ++ [44]) := by apply L_inj.1; simp [L, bs, ByteArray.data_append]
      have z1 : (bs n1).size ≤ 9 := by rw [size_bs]; exact l1
      have z2 : (bs n2).size ≤ 9 := by rw [size_bs]; exact l2
      have E1 := Lib.hid e1
      have E2 := Lib.hid e2
      clear e1 e2
      obtain ⟨b1, hb1⟩ := name_it ((n1 ++ [44]).isPrefixOf (L s))
      obtain ⟨b2, hb2⟩ := name_it ((n2 ++ [44]).isPrefixOf (L s))
      rw [hb1.out, hb2.out] at hst
      go_wp2_with fail
      all_goals (try (exfalso; omega))
      refine (rshort_any k _ hlt).mono ?_; rintro e w1 ⟨rfl, hc1⟩
      rw [hn1.out]
      go_wp2_with fail
      all_goals (try (exfalso; omega))
      rw [E1.out]
      refine (rbegins_b s (n1 ++ [44]) 0 _ (by omega) hs (by simp; omega)).mono ?_; rintro e w2 ⟨rfl, rfl⟩
      rw [List.drop_zero, hb1.out]
      cases b1
      · go_wp2_with fail
        all_goals (try (exfalso; omega))
        refine (rlong_any k _ hlt).mono ?_; rintro e w3 ⟨rfl, hc3⟩
        rw [hn2.out]
        go_wp2_with fail
        all_goals (try (exfalso; omega))
        rw [E2.out]
        refine (rbegins_b s (n2 ++ [44]) 0 _ (by omega) hs (by simp; omega)).mono ?_; rintro e w4 ⟨rfl, rfl⟩
        rw [List.drop_zero, hb2.out]
        have hbw := (hbr.trans (hc1.mono hbr.size))
        have hbw2 := hbw.trans (hc3.mono hbw.size)
        cases b2
        · have hnx : Hid (Stm.formFrom (L s) (Stm.longN.drop (k + 1)) = R) := by rw [← hk1.out, hst.out]; rfl
          go_wp2_with fail
          go_roundw
          case rel => exact ⟨k + 1, by omega, by go_num, hnx, hbw2⟩
          case measure => simp [intOf]; omega
        · have hr : Hid (R = 1) := by rw [← hk1.out, hst.out]; rfl
          go_wp2_with fail
          go_ret
          exact ⟨by rw [hr.out]; rfl, hbw2⟩
      · have hr : Hid (R = 0) := by rw [← hk1.out, hst.out]; rfl
        go_wp2_with fail
        go_ret
        exact ⟨by rw [hr.out]; rfl, hbr.trans (hc1.mono hbr.size)⟩
    · obtain rfl : k = 7 := by omega
      have hr : Hid (R = 2) := by rw [← hk1.out]; rfl
      go_wp2_with fail
      go_ret
      exact ⟨by rw [hr.out]; rfl, hbr⟩
end Go.Proofs.YtkenianfpfamcaaGreatDoor
