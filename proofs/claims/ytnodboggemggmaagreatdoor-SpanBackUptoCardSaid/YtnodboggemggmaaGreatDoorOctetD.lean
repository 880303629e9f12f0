/- Contracts of octet: blanks trimmed off a text (program and reference). -/
import Derived.Test.YtnodboggemggmaaGreatDoorOctetC
import Derived.Shelf.Strings.SlTrimAscii
namespace Go.Proofs.YtnodboggemggmaaGreatDoor
open Go Go.RowKit
set_option maxHeartbeats 1000000

def isBl (c : UInt8) : Bool := decide (c.toNat = 32 ∨ c.toNat = 9)
def trimL (l : List UInt8) : List UInt8 := l.dropWhile isBl
def trimR (l : List UInt8) : List UInt8 := (l.reverse.dropWhile isBl).reverse
def trim (l : List UInt8) : List UInt8 := trimR (trimL l)
theorem trimR_snoc_bl (l : List UInt8) (c : UInt8) (h : isBl c = true) : trimR (l ++ [c]) = trimR l := by
  simp [trimR, h]
theorem trimR_snoc_no (l : List UInt8) (c : UInt8) (h : isBl c = false) : trimR (l ++ [c]) = l ++ [c] := by
  simp [trimR, h]
theorem trimL_cons_bl (l : List UInt8) (c : UInt8) (h : isBl c = true) : trimL (c :: l) = trimL l := by simp [trimL, h]
theorem trimL_cons_no (l : List UInt8) (c : UInt8) (h : isBl c = false) : trimL (c :: l) = c :: l := by simp [trimL, h]
theorem trimR_cons_no : ∀ (l : List UInt8) (c : UInt8), isBl c = false → trimR (c :: l) = c :: trimR l := by
  intro l c h
  refine snoc_ind (P := fun l => trimR (c :: l) = c :: trimR l) ?_ ?_ l
  · have : ([c] : List UInt8) = [] ++ [c] := rfl
    rw [this, trimR_snoc_no _ _ h]; simp [trimR]
  · intro l d ih
    cases hd : isBl d
    · rw [← List.cons_append, trimR_snoc_no _ _ hd, trimR_snoc_no _ _ hd]; rfl
    · rw [← List.cons_append, trimR_snoc_bl _ _ hd, trimR_snoc_bl _ _ hd, ih]
theorem trim_swap (l : List UInt8) : trimL (trimR l) = trimR (trimL l) := by
  induction l with
  | nil => rfl
  | cons c l ih =>
    cases hc : isBl c
    · rw [trimR_cons_no _ _ hc, trimL_cons_no _ _ hc, trimL_cons_no _ _ hc, trimR_cons_no _ _ hc]
    · rw [trimL_cons_bl _ _ hc, ← ih]
      -- the last of c :: l that is no blank
      by_cases hall : (l.all isBl) = true
      · have e1 : ∀ m : List UInt8, m.all isBl = true → trimR m = [] := by
          intro m hm
          refine (snoc_ind (P := fun m => m.all isBl = true → trimR m = []) ?_ ?_ m) hm
          · intro _; rfl
          · intro m d ih h
            simp only [List.all_append, Bool.and_eq_true, List.all_cons, List.all_nil, Bool.and_true] at h
            rw [trimR_snoc_bl _ _ h.2]; exact ih h.1
        rw [e1 (c :: l) (by simp [hc] at hall ⊢; exact hall), e1 l hall]
      · have e2 : ∀ m : List UInt8, ¬ (m.all isBl) = true → trimR (c :: m) = c :: trimR m := by
          intro m
          refine snoc_ind (P := fun m => ¬ (m.all isBl) = true → trimR (c :: m) = c :: trimR m) ?_ ?_ m
          · intro h; exact absurd rfl h
          · intro m d ih h
            cases hd : isBl d
            · rw [← List.cons_append, trimR_snoc_no _ _ hd, trimR_snoc_no _ _ hd]; rfl
            · rw [← List.cons_append, trimR_snoc_bl _ _ hd, trimR_snoc_bl _ _ hd]
              refine ih (fun h' => h ?_)
              simp only [List.all_append, h', hd, List.all_cons, List.all_nil, Bool.and_true]
        rw [e2 l hall, trimL_cons_bl _ _ hc]
theorem dropWhile_le (p : UInt8 → Bool) (l : List UInt8) : (l.dropWhile p).length ≤ l.length := by
  induction l with
  | nil => simp
  | cons c l ih => rw [List.dropWhile_cons]; split <;> simp <;> omega
theorem trim_le (l : List UInt8) : (trim l).length ≤ l.length := by
  unfold trim trimR trimL
  have h1 := dropWhile_le isBl (l.dropWhile isBl).reverse
  have h2 := dropWhile_le isBl l
  simp at h1 ⊢; omega

theorem strim_any (s : ByteArray) (w : World) (hs : s.size ≤ maxLen) :
    Calls Tryz.prog 55 #[.string s, .string ⟨#[32, 9]⟩] w fun e w' => e = .returned (.string (bs (trim (L s)))) ∧ Below w.heap.size w w' := by
  refine (Any.strings_Trim_laid Tryz.lays160 (by kernel_rfl) s ⟨#[32, 9]⟩ w hs (by decide) (ascii_of_all (by decide))).mono ?_
  rintro e w' ⟨rfl, hb⟩
  refine ⟨ret_str ?_, hb⟩
  show _ = bs _
  unfold trim
  rw [← trim_swap]
  have e : ∀ b : UInt8, ([32, 9] : List UInt8).contains b = isBl b := by
    intro b
    rw [Bool.eq_iff_iff]
    simp [isBl, ← UInt8.toNat_inj]
  unfold Lib.trimS Lib.trimLeftS Lib.trimRightS trimL trimR bs
  simp only [e, L]
theorem trim_any (s : ByteArray) (w : World) (hs : s.size ≤ maxLen) :
    Calls Tryz.prog 34 #[.string s] w fun e w' => e = .returned (.string (bs (trim (L s)))) ∧ Below w.heap.size w w' := by
  go_enter Tryz.func34, Tryz.ntmps34
  go_wp2_with fail
  refine (strim_any s _ hs).mono ?_; rintro e w1 ⟨rfl, hb1⟩
  go_wp2_with fail
  go_ret
  exact ⟨rfl, hb1⟩
theorem isblank_any (c : UInt8) (w : World) : Calls Tryz.prog 57 #[.int .u8 c.toNat] w fun e w' => e = .returned (.bool (isBl c)) ∧ w = w' := by
  obtain ⟨R, hR⟩ := name_it (isBl c)
  rw [hR.out]
  go_enter Tryz.func57, Tryz.ntmps57
  go_wp2
  all_goals go_ret
  all_goals exact ⟨ret_bool (by rw [← hR.out, Bool.eq_iff_iff]; (try simp only [beq_iff_eq] at *); simp [isBl]; omega), rfl⟩
theorem rtrim_any (s : ByteArray) (w : World) (hs : s.size ≤ maxLen) :
    Calls Tryz.prog 38 #[.string s] w fun e w' => e = .returned (.string (bs (trim (L s)))) ∧ w = w' := by
  unfold maxLen at hs
  obtain ⟨R, hR⟩ := name_it (trim (L s))
  rw [hR.out]
  go_enter Tryz.func38, Tryz.ntmps38
  go_wp2_with fail
  go_loop [0] (fun t => ∃ l : List UInt8, t = .string (bs l) ∧ l.length ≤ s.size ∧ Hid (trim l = R)) (fun t => strLen t)
  case atStart => exact ⟨L s, by rw [bs_L], by rw [L_length]; exact Nat.le_refl _, hR⟩
  case round =>
    obtain ⟨l, rfl, hl, hr⟩ := hrel
    cases l with
    | nil =>
      have h1 := bs_nil
      have h2 := bs_nil'
      have hr3 : Hid (trimR [] = R) := hr
      go_wp2_with fail
      go_loop [0] (fun t => ∃ l : List UInt8, t = .string (bs l) ∧ l.length ≤ s.size ∧ Hid (trimR l = R)) (fun t => strLen t)
      case atStart => exact ⟨[], rfl, hl, hr3⟩
      case round =>
        obtain ⟨m, rfl, hml, hr4⟩ := hrel
        rcases list_snoc m with rfl | ⟨m, d, rfl⟩
        · have g1 := bs_nil
          have g2 := bs_nil'
          go_wp2_with fail
          go_ret
          exact ⟨ret_str (by rw [← hr4.out]; rfl), rfl⟩
        · have g1 := bs_snoc_ne (c := d) (l := m)
          have g2 := bs_snoc_ne' (c := d) (l := m)
          have g3 := bs_snoc_size (c := d) (l := m)
          have g5 := bs_snoc_get (c := d) (l := m)
          have gx : Hid ((bs (m ++ [d])).extract 0 m.length = bs m) := by unfold Hid; rw [extract_head]; simp [L_bs]
          rw [List.length_append, List.length_singleton] at hml
          go_wp2_with fail
          refine (isblank_any d _).mono ?_; rintro e w' ⟨rfl, rfl⟩
          cases hd : isBl d
          · rw [trimR_snoc_no _ _ hd] at hr4
            have HC := Lib.hid hd; clear hd
            go_wp2_with fail
            go_ret
            exact ⟨ret_str (by rw [← hr4.out]), rfl⟩
          · rw [trimR_snoc_bl _ _ hd] at hr4
            have HC := Lib.hid hd; clear hd
            go_wp2_with fail
            go_round
            case rel => exact ⟨m, by rw [gx.out], by omega, hr4⟩
            case measure => rw [gx.out]; simp only [strLen, size_bs]; simp
    | cons c l =>
      have h1 := bs_ne (c := c) (l := l)
      have h2 := bs_ne' (c := c) (l := l)
      have h3 := bs_zero_size (c := c) (l := l)
      have h4 := bs_get0 (c := c) (l := l)
      have hx : Hid ((bs (c :: l)).extract 1 (bs (c :: l)).size = bs l) := by unfold Hid; rw [extract_tail]; rfl
      go_wp2_with fail
      refine (isblank_any c _).mono ?_; rintro e w' ⟨rfl, rfl⟩
      cases hc : isBl c
      · have hr3 : Hid (trimR (c :: l) = R) := by
          have := hr.out
          unfold trim at this; rw [trimL_cons_no _ _ hc] at this; exact this
        have HC := Lib.hid hc; clear hc hr
        go_wp2_with fail
        clear h1 h2 h3 h4
        go_loop [0] (fun t => ∃ l : List UInt8, t = .string (bs l) ∧ l.length ≤ s.size ∧ Hid (trimR l = R)) (fun t => strLen t)
        case atStart => exact ⟨c :: l, rfl, hl, hr3⟩
        case round =>
          obtain ⟨m, rfl, hml, hr4⟩ := hrel
          rcases list_snoc m with rfl | ⟨m, d, rfl⟩
          · have g1 := bs_nil
            have g2 := bs_nil'
            go_wp2_with fail
            go_ret
            exact ⟨ret_str (by rw [← hr4.out]; rfl), rfl⟩
          · have g1 := bs_snoc_ne (c := d) (l := m)
            have g2 := bs_snoc_ne' (c := d) (l := m)
            have g3 := bs_snoc_size (c := d) (l := m)
            have g5 := bs_snoc_get (c := d) (l := m)
            have gx : Hid ((bs (m ++ [d])).extract 0 m.length = bs m) := by unfold Hid; rw [extract_head]; simp [L_bs]
            rw [List.length_append, List.length_singleton] at hml
            go_wp2_with fail
            refine (isblank_any d _).mono ?_; rintro e w' ⟨rfl, rfl⟩
            cases hd : isBl d
            · rw [trimR_snoc_no _ _ hd] at hr4
              have HC := Lib.hid hd; clear hd
              go_wp2_with fail
              go_ret
              exact ⟨ret_str (by rw [← hr4.out]), rfl⟩
            · rw [trimR_snoc_bl _ _ hd] at hr4
              have HC := Lib.hid hd; clear hd
              go_wp2_with fail
              go_round
              case rel => exact ⟨m, by rw [gx.out], by omega, hr4⟩
              case measure => rw [gx.out]; simp only [strLen, size_bs]; simp
      · have hr3 : Hid (trim l = R) := by
          have := hr.out
          unfold trim at this ⊢; rw [trimL_cons_bl _ _ hc] at this; exact this
        have HC := Lib.hid hc; clear hc hr
        go_wp2_with fail
        go_round
        case rel => exact ⟨l, by rw [hx.out], by simp at hl; omega, hr3⟩
        case measure => rw [hx.out]; simp only [strLen, size_bs]; simp
end Go.Proofs.YtnodboggemggmaaGreatDoor
