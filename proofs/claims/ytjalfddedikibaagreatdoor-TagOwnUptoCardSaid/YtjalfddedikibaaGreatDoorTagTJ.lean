/- Contracts of the blanks trimmed off a text, at each side: the library's, and the document's. -/
import Derived.Test.YtjalfddedikibaaGreatDoorMa
import Derived.Test.YtjalfddedikibaaGreatDoorShelf
namespace Go.Proofs.YtjalfddedikibaaGreatDoor
open Go Go.RowKit
set_option maxHeartbeats 1000000

theorem isBl_set (b : UInt8) : ([32, 9] : List UInt8).contains b = isBl b := by
  rw [Bool.eq_iff_iff]
  simp [isBl, ← UInt8.toNat_inj]
theorem strimL_any (s : ByteArray) (w : World) :
    Calls Tryz.prog 64 #[.string s, .string ⟨#[32, 9]⟩] w fun e w' => e = .returned (.string (bs (trimL (L s)))) ∧ Below w.heap.size w w' := by
  refine (Any.strings_TrimLeft_laid Tryz.lays161 (by kernel_rfl) s ⟨#[32, 9]⟩ w (by decide) (ascii_of_all (by decide))).mono ?_
  rintro e w' ⟨rfl, hb⟩
  refine ⟨ret_str ?_, hb⟩
  show _ = bs _
  unfold Lib.trimLeftS trimL bs
  simp only [isBl_set, L]
theorem strimR_any (s : ByteArray) (w : World) (hs : s.size ≤ maxLen) :
    Calls Tryz.prog 63 #[.string s, .string ⟨#[32, 9]⟩] w fun e w' => e = .returned (.string (bs (trimR (L s)))) ∧ Below w.heap.size w w' := by
  refine (Any.strings_TrimRight_laid Tryz.lays162 (by kernel_rfl) s ⟨#[32, 9]⟩ w hs (by decide) (ascii_of_all (by decide))).mono ?_
  rintro e w' ⟨rfl, hb⟩
  refine ⟨ret_str ?_, hb⟩
  show _ = bs _
  unfold Lib.trimRightS trimR bs
  simp only [isBl_set, L]
theorem blank6_any (c : UInt8) (w : World) : Calls Tryz.prog 57 #[.int .u8 c.toNat] w fun e w' => e = .returned (.bool (isBl c)) ∧ w = w' := by
  obtain ⟨R, hR⟩ := name_it (isBl c)
  rw [hR.out]
  go_enter Tryz.func57, Tryz.ntmps57
  go_wp2
  all_goals go_ret
  all_goals exact ⟨ret_bool (by rw [← hR.out, Bool.eq_iff_iff]; (try simp only [beq_iff_eq] at *); simp [isBl]; omega), rfl⟩
theorem rtrim6_any (s : ByteArray) (w : World) (hs : s.size ≤ maxLen) :
    Calls Tryz.prog 32 #[.string s] w fun e w' => e = .returned (.string (bs (trim (L s)))) ∧ w = w' := by
  unfold maxLen at hs
  obtain ⟨R, hR⟩ := name_it (trim (L s))
  rw [hR.out]
  go_enter Tryz.func32, Tryz.ntmps32
  go_wp2_with fail
  go_loop [0] (fun t => ∃ l : List UInt8, t = .string (bs l) ∧ l.length ≤ s.size ∧ Hid (trim l = R)) (fun t => strLen t)
  case atStart => exact ⟨L s, by rw [bs_L], by rw [L_length]; exact Nat.le_refl _, hR⟩
  case round =>
    obtain ⟨l, rfl, hl, hr⟩ := hrel
    cases l with
    | nil =>
      have h1 := bs_nil
      have h2 := bs_nil'
      have hr3 : Hid (trimR [] = R) := hr
      go_wp2_with fail
      go_loop [0] (fun t => ∃ l : List UInt8, t = .string (bs l) ∧ l.length ≤ s.size ∧ Hid (trimR l = R)) (fun t => strLen t)
      case atStart => exact ⟨[], rfl, hl, hr3⟩
      case round =>
        obtain ⟨m, rfl, hml, hr4⟩ := hrel
        rcases list_snoc m with rfl | ⟨m, d, rfl⟩
        · have g1 := bs_nil
          have g2 := bs_nil'
          go_wp2_with fail
          go_ret
          exact ⟨ret_str (by rw [← hr4.out]; rfl), rfl⟩
        · have g1 := bs_snoc_ne (c := d) (l := m)
          have g2 := bs_snoc_ne' (c := d) (l := m)
          have g3 := bs_snoc_size (c := d) (l := m)
          have g5 := bs_snoc_get (c := d) (l := m)
          have gx : Hid ((bs (m ++ [d])).extract 0 m.length = bs m) := by unfold Hid; rw [extract_head]; simp [L_bs]
          rw [List.length_append, List.length_singleton] at hml
          go_wp2_with fail
          refine (blank6_any d _).mono ?_; rintro e w' ⟨rfl, rfl⟩
          cases hd : isBl d
          · rw [trimR_snoc_no _ _ hd] at hr4
            have HC := Lib.hid hd; clear hd
            go_wp2_with fail
            go_ret
            exact ⟨ret_str (by rw [← hr4.out]), rfl⟩
          · rw [trimR_snoc_bl _ _ hd] at hr4
            have HC := Lib.hid hd; clear hd
            go_wp2_with fail
            go_round
            case rel => exact ⟨m, by rw [gx.out], by omega, hr4⟩
            case measure => rw [gx.out]; simp only [strLen, size_bs]; simp
    | cons c l =>
      have h1 := bs_ne (c := c) (l := l)
      have h2 := bs_ne' (c := c) (l := l)
      have h3 := bs_zero_size (c := c) (l := l)
      have h4 := bs_get0 (c := c) (l := l)
      have hx : Hid ((bs (c :: l)).extract 1 (bs (c :: l)).size = bs l) := by unfold Hid; rw [extract_tail]; rfl
      go_wp2_with fail
      refine (blank6_any c _).mono ?_; rintro e w' ⟨rfl, rfl⟩
      cases hc : isBl c
      · have hr3 : Hid (trimR (c :: l) = R) := by
          have := hr.out
          unfold trim at this; rw [trimL_cons_no _ _ hc] at this; exact this
        have HC := Lib.hid hc; clear hc hr
        go_wp2_with fail
        clear h1 h2 h3 h4
        go_loop [0] (fun t => ∃ l : List UInt8, t = .string (bs l) ∧ l.length ≤ s.size ∧ Hid (trimR l = R)) (fun t => strLen t)
        case atStart => exact ⟨c :: l, rfl, hl, hr3⟩
        case round =>
          obtain ⟨m, rfl, hml, hr4⟩ := hrel
          rcases list_snoc m with rfl | ⟨m, d, rfl⟩
          · have g1 := bs_nil
            have g2 := bs_nil'
            go_wp2_with fail
            go_ret
            exact ⟨ret_str (by rw [← hr4.out]; rfl), rfl⟩
          · have g1 := bs_snoc_ne (c := d) (l := m)
            have g2 := bs_snoc_ne' (c := d) (l := m)
            have g3 := bs_snoc_size (c := d) (l := m)
            have g5 := bs_snoc_get (c := d) (l := m)
            have gx : Hid ((bs (m ++ [d])).extract 0 m.length = bs m) := by unfold Hid; rw [extract_head]; simp [L_bs]
            rw [List.length_append, List.length_singleton] at hml
            go_wp2_with fail
            refine (blank6_any d _).mono ?_; rintro e w' ⟨rfl, rfl⟩
            cases hd : isBl d
            · rw [trimR_snoc_no _ _ hd] at hr4
              have HC := Lib.hid hd; clear hd
              go_wp2_with fail
              go_ret
              exact ⟨ret_str (by rw [← hr4.out]), rfl⟩
            · rw [trimR_snoc_bl _ _ hd] at hr4
              have HC := Lib.hid hd; clear hd
              go_wp2_with fail
              go_round
              case rel => exact ⟨m, by rw [gx.out], by omega, hr4⟩
              case measure => rw [gx.out]; simp only [strLen, size_bs]; simp
      · have hr3 : Hid (trim l = R) := by
          have := hr.out
          unfold trim at this ⊢; rw [trimL_cons_bl _ _ hc] at this; exact this
        have HC := Lib.hid hc; clear hc hr
        go_wp2_with fail
        go_round
        case rel => exact ⟨l, by rw [hx.out], by simp at hl; omega, hr3⟩
        case measure => rw [hx.out]; simp only [strLen, size_bs]; simp
end Go.Proofs.YtjalfddedikibaaGreatDoor
