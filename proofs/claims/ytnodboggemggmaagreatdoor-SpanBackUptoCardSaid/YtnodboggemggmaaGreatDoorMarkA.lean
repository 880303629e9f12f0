/- Contracts: is a text a boundary (program and document). -/
import Derived.Test.YtnodboggemggmaaGreatDoorOctetB
import Derived.BigQuiet
namespace Go.Proofs.YtnodboggemggmaaGreatDoor
open Go Go.RowKit
set_option maxHeartbeats 2000000

def isLet (c : UInt8) : Bool := decide ((65 ≤ c.toNat ∧ c.toNat ≤ 90) ∨ (97 ≤ c.toNat ∧ c.toNat ≤ 122))
def marksB : ByteArray := ⟨#[39, 40, 41, 43, 95, 44, 45, 46, 47, 58, 61, 63]⟩
def marksL : List UInt8 := [39, 40, 41, 43, 95, 44, 45, 46, 47, 58, 61, 63]
def specB (c : UInt8) : Bool := marksL.any (· == c)
def markB (c : UInt8) : Bool := (isLet c || isDig c) || specB c
def markI (c : UInt8) : Int := Lib.indexByte marksL c
theorem markI_all : ∀ p : Fin 256, decide (markI (UInt8.ofNat p.val) < 0) = !specB (UInt8.ofNat p.val) := by decide +kernel
theorem markI_of (c : UInt8) : decide (markI c < 0) = !specB c := by
  have h := markI_all ⟨c.toNat, UInt8.toNat_lt c⟩
  simpa using h
theorem index_marks (c : UInt8) (w : World) : Calls Tryz.prog 46 #[.string ⟨#[39, 40, 41, 43, 95, 44, 45, 46, 47, 58, 61, 63]⟩, .int .u8 (c.toNat : Int)] w fun e w' => e = .returned (.int .i64 (markI c)) ∧ w = w' := by
  refine (Tryz.strings_IndexByte marksB (c.toNat : Int) w).mono ?_
  rintro e w' ⟨rfl, rfl⟩
  refine ⟨ret_int ?_, rfl⟩
  unfold markI marksB marksL
  simp
def isMk (l : List UInt8) : Bool := l.all markB && decide (1 ≤ l.length ∧ l.length ≤ 70)
theorem letdig_cases (c : UInt8) : ((isLet c || isDig c) = true ∧ ((97 ≤ c.toNat ∧ c.toNat ≤ 122) ∨ (65 ≤ c.toNat ∧ c.toNat ≤ 90) ∨ (48 ≤ c.toNat ∧ c.toNat ≤ 57)))
    ∨ ((isLet c || isDig c) = false ∧ (c.toNat < 48 ∨ (57 < c.toNat ∧ c.toNat < 65) ∨ (90 < c.toNat ∧ c.toNat < 97) ∨ 122 < c.toNat)) := by
  cases h : (isLet c || isDig c)
  · refine Or.inr ⟨rfl, ?_⟩
    simp [isLet, isDig] at h
    omega
  · refine Or.inl ⟨rfl, ?_⟩
    simp [isLet, isDig] at h
    omega

set_option maxRecDepth 100000 in
theorem isboundary_any (s : ByteArray) (w : World) (hs : s.size ≤ maxLen) : Calls Tryz.prog 24 #[.string s] w fun e w' => e = .returned (.bool (isMk (L s))) ∧ w = w' := by
  unfold maxLen at hs
  have hR0 : isMk (L s) = ((L s).all markB && decide (1 ≤ s.size ∧ s.size ≤ 70)) := by unfold isMk; rw [L_length]
  rw [hR0]
  obtain ⟨Z, hZ⟩ := name_it (decide (1 ≤ s.size ∧ s.size ≤ 70))
  rw [hZ.out]
  obtain ⟨R, hR⟩ := name_it ((L s).all markB && Z)
  rw [hR.out]
  clear hR0
  go_enter Tryz.func24, Tryz.ntmps24
  go_wp2_with fail
  go_loop [8] (fun i => ∃ k : Nat, k ≤ s.size ∧ i = .int .i64 k ∧ Hid ((((L s).drop k).all markB && Z) = R)) (fun i => s.size - (intOf i).toNat)
  case atStart => exact ⟨0, Nat.zero_le _, rfl, hR⟩
  case round =>
    obtain ⟨k, hk, rfl, hr⟩ := hrel
    by_cases hlt : k < s.size
    · have hr2 := hr.out
      rw [L_drop hlt, List.all_cons] at hr2
      have hmk : markB s[k] = ((isLet s[k] || isDig s[k]) || specB s[k]) := rfl
      rw [hmk] at hr2
      have hcs := letdig_cases s[k]
      have hmi := markI_of s[k]
      obtain ⟨sp, hsp⟩ := name_it (specB s[k])
      obtain ⟨ld, hld⟩ := name_it (isLet s[k] || isDig s[k])
      rw [hsp.out] at hr2 hmi
      rw [hld.out] at hr2 hcs
      obtain ⟨c, hc⟩ := name_it s[k]
      have hix := index_marks s[k]
      rw [hc.out] at hmi hcs hix
      obtain ⟨mi, hmi2⟩ := name_it (markI c)
      rw [hmi2.out] at hmi hix
      have HIX := Lib.hid hix
      clear hr hmk hix hld hsp
      rcases hcs with ⟨h1, h2⟩ | ⟨h1, h2⟩
      · subst h1
        have HR := Lib.hid hr2
        clear hr2 hmi
        rcases h2 with h2 | h2 | h2
        all_goals
          have hck : ((s[k]).toNat : Int) = (c.toNat : Int) := by rw [hc.out]
          go_wp2_with fail
        all_goals (try (exfalso; omega))
        all_goals go_round
        all_goals (first | exact ⟨k + 1, by omega, by go_num, Lib.hid (by have h := HR.out; simpa using h)⟩ | (simp [intOf]; omega))
      · subst h1
        have HR := Lib.hid hr2
        clear hr2
        cases sp
        all_goals
          have hmi := hmi
          simp only [Bool.not_false, Bool.not_true, decide_eq_true_eq, decide_eq_false_iff_not] at hmi
          rcases h2 with h2 | h2 | h2 | h2
        all_goals
          have hck : ((s[k]).toNat : Int) = (c.toNat : Int) := by rw [hc.out]
          go_wp2_with (go_at_call 46; (try rw [hck]); refine (HIX.out _).mono ?_; rintro e w' ⟨rfl, rfl⟩)
        all_goals (try (exfalso; omega))
        all_goals first
          | (go_ret; exact ⟨ret_bool (by rw [← HR.out]; rfl), rfl⟩)
          | (go_round <;> (first | exact ⟨k + 1, by omega, by go_num, Lib.hid (by have h := HR.out; simpa using h)⟩ | (simp [intOf]; omega)))
    · obtain rfl : k = s.size := by omega
      rw [L_drop_all] at hr
      have hz : Z = R := hr.out
      subst hz
      by_cases h1 : 1 ≤ s.size
      · by_cases h2 : s.size ≤ 70
        · rw [decide_eq_true (And.intro h1 h2)] at hZ
          go_wp2_with fail
          all_goals (try (exfalso; omega))
          go_ret
          exact ⟨ret_bool (by rw [← hZ.out] <;> simp <;> omega), rfl⟩
        · rw [decide_eq_false (fun h => h2 h.2)] at hZ
          go_wp2_with fail
          all_goals (try (exfalso; omega))
          go_ret
          exact ⟨ret_bool (by rw [← hZ.out] <;> simp <;> omega), rfl⟩
      · rw [decide_eq_false (fun h => h1 h.1)] at hZ
        go_wp2_with fail
        all_goals (try (exfalso; omega))
        go_ret
        exact ⟨ret_bool (by rw [← hZ.out] <;> simp <;> omega), rfl⟩

end Go.Proofs.YtnodboggemggmaaGreatDoor
