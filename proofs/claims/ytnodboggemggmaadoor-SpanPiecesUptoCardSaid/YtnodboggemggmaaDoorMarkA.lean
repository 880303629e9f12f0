/- Contracts: is a text a boundary (program and document). -/
import Derived.Test.YtnodboggemggmaaDoorOctetB
import Derived.BigQuiet
namespace Go.Proofs.YtnodboggemggmaaDoor
open Go Go.RowKit
set_option maxHeartbeats 2000000

def isLet (c : UInt8) : Bool := decide ((65 ≤ c.toNat ∧ c.toNat ≤ 90) ∨ (97 ≤ c.toNat ∧ c.toNat ≤ 122))
theorem isletter_any (c : UInt8) (w : World) : Calls Tryd.prog 91 #[.int .u8 c.toNat] w fun e w' => e = .returned (.bool (isLet c)) ∧ w = w' := by
  obtain ⟨R, hR⟩ := name_it (isLet c)
  rw [hR.out]
  go_enter Tryd.func91, Tryd.ntmps91
  go_wp2
  all_goals go_ret
  all_goals exact ⟨ret_bool (by rw [← hR.out, Bool.eq_iff_iff]; simp [isLet]; omega), rfl⟩
def marksB : ByteArray := ⟨#[39, 40, 41, 43, 95, 44, 45, 46, 47, 58, 61, 63]⟩
def marksL : List UInt8 := [39, 40, 41, 43, 95, 44, 45, 46, 47, 58, 61, 63]
def specB (c : UInt8) : Bool := marksL.any (· == c)
def markB (c : UInt8) : Bool := (isLet c || isDig c) || specB c
def markI (c : UInt8) : Int := Lib.indexByte marksL c
theorem markI_all : ∀ p : Fin 256, decide (markI (UInt8.ofNat p.val) < 0) = !specB (UInt8.ofNat p.val) := by decide +kernel
theorem markI_of (c : UInt8) : decide (markI c < 0) = !specB c := by
  have h := markI_all ⟨c.toNat, UInt8.toNat_lt c⟩
  simpa using h
theorem index_marks (c : UInt8) (w : World) : Calls Tryd.prog 88 #[.string ⟨#[39, 40, 41, 43, 95, 44, 45, 46, 47, 58, 61, 63]⟩, .int .u8 (c.toNat : Int)] w fun e w' => e = .returned (.int .i64 (markI c)) ∧ w = w' := by
  refine (Tryd.strings_IndexByte marksB (c.toNat : Int) w).mono ?_
  rintro e w' ⟨rfl, rfl⟩
  refine ⟨ret_int ?_, rfl⟩
  unfold markI marksB marksL
  simp
def isMk (l : List UInt8) : Bool := l.all markB && decide (1 ≤ l.length ∧ l.length ≤ 70)
theorem letdig_cases (c : UInt8) : ((isLet c || isDig c) = true ∧ ((97 ≤ c.toNat ∧ c.toNat ≤ 122) ∨ (65 ≤ c.toNat ∧ c.toNat ≤ 90) ∨ (48 ≤ c.toNat ∧ c.toNat ≤ 57)))
    ∨ ((isLet c || isDig c) = false ∧ (c.toNat < 48 ∨ (57 < c.toNat ∧ c.toNat < 65) ∨ (90 < c.toNat ∧ c.toNat < 97) ∨ 122 < c.toNat)) := by
  cases h : (isLet c || isDig c)
  · refine Or.inr ⟨rfl, ?_⟩
    simp [isLet, isDig] at h
    omega
  · refine Or.inl ⟨rfl, ?_⟩
    simp [isLet, isDig] at h
    omega

set_option maxRecDepth 100000 in
theorem isboundary_any (s : ByteArray) (w : World) (hs : s.size ≤ maxLen) : Calls Tryd.prog 59 #[.string s] w fun e w' => e = .returned (.bool (isMk (L s))) ∧ w = w' := by
  unfold maxLen at hs
  have hR0 : isMk (L s) = ((L s).all markB && decide (1 ≤ s.size ∧ s.size ≤ 70)) := by unfold isMk; rw [L_length]
  rw [hR0]
  obtain ⟨Z, hZ⟩ := name_it (decide (1 ≤ s.size ∧ s.size ≤ 70))
  rw [hZ.out]
  obtain ⟨R, hR⟩ := name_it ((L s).all markB && Z)
  rw [hR.out]
  clear hR0
  go_enter Tryd.func59, Tryd.ntmps59
  go_wp2_with fail
  go_loop [8] (fun i => ∃ k : Nat, k ≤ s.size ∧ i = .int .i64 k ∧ Hid ((((L s).drop k).all markB && Z) = R)) (fun i => s.size - (intOf i).toNat)
  case atStart => exact ⟨0, Nat.zero_le _, rfl, hR⟩
  case round =>
    obtain ⟨k, hk, rfl, hr⟩ := hrel
    by_cases hlt : k < s.size
    · have hr2 := hr.out
      rw [L_drop hlt, List.all_cons] at hr2
      have hmk : markB s[k] = ((isLet s[k] || isDig s[k]) || specB s[k]) := rfl
      rw [hmk] at hr2
      have hcs := letdig_cases s[k]
      have hmi := markI_of s[k]
      obtain ⟨sp, hsp⟩ := name_it (specB s[k])
      obtain ⟨ld, hld⟩ := name_it (isLet s[k] || isDig s[k])
      rw [hsp.out] at hr2 hmi
      rw [hld.out] at hr2 hcs
      obtain ⟨c, hc⟩ := name_it s[k]
      have hix := index_marks s[k]
      rw [hc.out] at hmi hcs hix
      obtain ⟨mi, hmi2⟩ := name_it (markI c)
      rw [hmi2.out] at hmi hix
      have HIX := Lib.hid hix
      clear hr hmk hix hld hsp
      rcases hcs with ⟨h1, h2⟩ | ⟨h1, h2⟩
      · subst h1
        have HR := Lib.hid hr2
        clear hr2 hmi
        rcases h2 with h2 | h2 | h2
        all_goals
          have hck : ((s[k]).toNat : Int) = (c.toNat : Int) := by rw [hc.out]
          go_wp2_with fail
        all_goals (try (exfalso; omega))
        all_goals go_round
        all_goals (first | exact ⟨k + 1, by omega, by go_num, Lib.hid (by have h := HR.out; simpa using h)⟩ | (simp [intOf]; omega))
      · subst h1
        have HR := Lib.hid hr2
        clear hr2
        cases sp
        all_goals
          have hmi := hmi
          simp only [Bool.not_false, Bool.not_true, decide_eq_true_eq, decide_eq_false_iff_not] at hmi
          rcases h2 with h2 | h2 | h2 | h2
        all_goals
          have hck : ((s[k]).toNat : Int) = (c.toNat : Int) := by rw [hc.out]
          go_wp2_with (go_at_call 88; (try rw [hck]); refine (HIX.out _).mono ?_; rintro e w' ⟨rfl, rfl⟩)
        all_goals (try (exfalso; omega))
        all_goals first
          | (go_ret; exact ⟨ret_bool (by rw [← HR.out]; rfl), rfl⟩)
          | (go_round <;> (first | exact ⟨k + 1, by omega, by go_num, Lib.hid (by have h := HR.out; simpa using h)⟩ | (simp [intOf]; omega)))
    · obtain rfl : k = s.size := by omega
      rw [L_drop_all] at hr
      have hz : Z = R := hr.out
      subst hz
      by_cases h1 : 1 ≤ s.size
      · by_cases h2 : s.size ≤ 70
        · rw [decide_eq_true (And.intro h1 h2)] at hZ
          go_wp2_with fail
          all_goals (try (exfalso; omega))
          go_ret
          exact ⟨ret_bool (by rw [← hZ.out] <;> simp <;> omega), rfl⟩
        · rw [decide_eq_false (fun h => h2 h.2)] at hZ
          go_wp2_with fail
          all_goals (try (exfalso; omega))
          go_ret
          exact ⟨ret_bool (by rw [← hZ.out] <;> simp <;> omega), rfl⟩
      · rw [decide_eq_false (fun h => h1 h.1)] at hZ
        go_wp2_with fail
        all_goals (try (exfalso; omega))
        go_ret
        exact ⟨ret_bool (by rw [← hZ.out] <;> simp <;> omega), rfl⟩

set_option maxRecDepth 100000 in
theorem ismark_any (s : ByteArray) (w : World) (hs : s.size ≤ maxLen) : Calls Tryd.prog 64 #[.string s] w fun e w' => e = .returned (.bool (isMk (L s))) ∧ Below w.heap.size w w' := by
  unfold maxLen at hs
  have hR0 : isMk (L s) = ((L s).all markB && decide (1 ≤ s.size ∧ s.size ≤ 70)) := by unfold isMk; rw [L_length]
  rw [hR0]
  obtain ⟨Z, hZ⟩ := name_it (decide (1 ≤ s.size ∧ s.size ≤ 70))
  rw [hZ.out]
  obtain ⟨R, hR⟩ := name_it ((L s).all markB && Z)
  rw [hR.out]
  clear hR0
  go_enter Tryd.func64, Tryd.ntmps64
  go_wp2_with fail
  go_loopw [3] (fun i wr => ∃ k : Nat, k ≤ s.size ∧ i = .int .i64 k ∧ Hid ((((L s).drop k).all markB && Z) = R) ∧ Below w.heap.size w wr) (fun i _ => s.size - (intOf i).toNat)
  case atStart => exact ⟨0, Nat.zero_le _, rfl, hR, Below.refl _ _⟩
  case round =>
    obtain ⟨k, hk, rfl, hr, hbr⟩ := hrel
    by_cases hlt : k < s.size
    · have hr2 := hr.out
      rw [L_drop hlt, List.all_cons] at hr2
      have hmk : markB s[k] = ((isLet s[k] || isDig s[k]) || specB s[k]) := rfl
      rw [hmk] at hr2
      obtain ⟨lt, hlt1⟩ := name_it (isLet s[k])
      obtain ⟨dg, hdg1⟩ := name_it (isDig s[k])
      have c1 := fun wx => isletter_any s[k] wx
      have c2 := fun wx => isdigit_any s[k] wx
      rw [hlt1.out] at hr2 c1
      rw [hdg1.out] at hr2 c2
      have C1 := Lib.hid c1
      have C2 := Lib.hid c2
      have HR := Lib.hid hr2
      have b1 : (0 : Int) ≤ (k : Int) := by omega
      have b2 : (k : Int) < (s.size : Int) := by omega
      clear hr hr2 hmk c1 c2 hlt1 hdg1
      obtain ⟨b0, hb0⟩ := name_it (lt || dg)
      rw [hb0.out] at HR
      cases lt <;> cases dg
      all_goals
        go_wp2_with (first | (go_at_call 91; refine (C1.out _).mono ?_; rintro e w' ⟨rfl, rfl⟩) | (go_at_call 92; refine (C2.out _).mono ?_; rintro e w' ⟨rfl, rfl⟩))
        go_loopw [4, 5] (fun ok j wq => ∃ m : Nat, m ≤ 12 ∧ j = .int .i64 m ∧ ok = .bool (b0 || (marksL.take m).any (· == s[k])) ∧ Below w.heap.size w wq) (fun _ j _ => 12 - (intOf j).toNat)
        case atStart => exact ⟨0, by omega, rfl, by rw [← hb0.out]; rfl, hbr⟩
        case round =>
          obtain ⟨m, hm, rfl, rfl, hbq⟩ := hrel
          by_cases hm2 : m < 12
          · have hlm : m < marksL.length := hm2
            have hst : (marksL.take (m + 1)).any (· == s[k]) = ((marksL.take m).any (· == s[k]) || (marksL[m] == s[k])) := by
              rw [List.take_succ_eq_append_getElem hlm, List.any_append]; simp
            have d1 : (0 : Int) ≤ (m : Int) := by omega
            have d2 : (m : Int) < 12 := by omega
            obtain ⟨p, hp⟩ := name_it (b0 || (marksL.take m).any (· == s[k]))
            rw [hp.out]
            cases p
            · have hsz : (⟨#[39, 40, 41, 43, 95, 44, 45, 46, 47, 58, 61, 63]⟩ : ByteArray).size = 12 := rfl
              have hq : Hid (marksL[m] = (⟨#[39, 40, 41, 43, 95, 44, 45, 46, 47, 58, 61, 63]⟩ : ByteArray)[m]'(by rw [hsz]; exact hm2)) := rfl
              have hbe : (marksL[m] == s[k]) = decide ((marksL[m]).toNat = (s[k]).toNat) := by
                rw [Bool.eq_iff_iff, decide_eq_true_eq, beq_iff_eq]; exact UInt8.toNat_inj.symm
              by_cases he : (((⟨#[39, 40, 41, 43, 95, 44, 45, 46, 47, 58, 61, 63]⟩ : ByteArray)[m]'(by rw [hsz]; exact hm2)).toNat : Int) = ((s[k]).toNat : Int)
              · have he2 := Lib.hid he
                go_wp2_with fail
                go_quiet (fail)
                go_wp2_with fail
                go_roundw
                case rel => exact ⟨m + 1, by omega, by go_num, val_bool (by rw [hst, hbe, decide_eq_true (by rw [hq.out]; have := he2.out; omega)]; simp), below_drewN hbq _⟩
                case measure => simp [intOf]; omega
              · have heb : (((s[k]).toNat : Int) == (((⟨#[39, 40, 41, 43, 95, 44, 45, 46, 47, 58, 61, 63]⟩ : ByteArray)[m]'(by rw [hsz]; exact hm2)).toNat : Int)) = false := by simp; exact fun h => he h.symm
                have hpo := hp.out
                go_wp2_with fail
                go_quiet (fail)
                go_wp2_with fail
                go_roundw
                case rel => exact ⟨m + 1, by omega, by go_num, val_bool (by rw [hst, hbe, decide_eq_false (by rw [hq.out]; omega), Bool.or_false, hpo]), below_drewN hbq _⟩
                case measure => simp [intOf]; omega
            · have hpo := hp.out
              go_wp2_with fail
              go_quiet (fail)
              go_wp2_with fail
              go_roundw
              case rel => exact ⟨m + 1, by omega, by go_num, val_bool (by rw [hst, ← Bool.or_assoc, hpo]; rfl), below_drewN hbq _⟩
              case measure => simp [intOf]; omega
          · obtain rfl : m = 12 := by omega
            have hall : (marksL.take 12).any (· == s[k]) = specB s[k] := rfl
            rw [hall]
            have HR2 := HR.out
            obtain ⟨p, hp⟩ := name_it (b0 || specB s[k])
            rw [hp.out] at HR2 ⊢
            have HR3 := Lib.hid HR2
            clear HR2 HR hall
            cases p
            · go_wp2_with fail
              go_ret
              exact ⟨ret_bool (by rw [← HR3.out]; rfl), hbq⟩
            · go_wp2_with fail
              go_roundw
              case rel => exact ⟨k + 1, by omega, by go_num, Lib.hid (by have h := HR3.out; simpa using h), hbq⟩
              case measure => simp [intOf]; omega
    · obtain rfl : k = s.size := by omega
      rw [L_drop_all] at hr
      have hz : Z = R := hr.out
      subst hz
      by_cases h1 : 1 ≤ s.size
      · by_cases h2 : s.size ≤ 70
        · rw [decide_eq_true (And.intro h1 h2)] at hZ
          go_wp2_with fail
          all_goals (try (exfalso; omega))
          go_ret
          exact ⟨ret_bool (by rw [← hZ.out] <;> simp <;> omega), hbr⟩
        · rw [decide_eq_false (fun h => h2 h.2)] at hZ
          go_wp2_with fail
          all_goals (try (exfalso; omega))
          go_ret
          exact ⟨ret_bool (by rw [← hZ.out] <;> simp <;> omega), hbr⟩
      · rw [decide_eq_false (fun h => h1 h.1)] at hZ
        go_wp2_with fail
        all_goals (try (exfalso; omega))
        go_ret
        exact ⟨ret_bool (by rw [← hZ.out] <;> simp <;> omega), hbr⟩
end Go.Proofs.YtnodboggemggmaaDoor
