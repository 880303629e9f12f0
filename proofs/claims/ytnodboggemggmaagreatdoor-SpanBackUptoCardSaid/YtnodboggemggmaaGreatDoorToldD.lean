/- Contracts of a strict number (program and document); what a content range says. -/
import Derived.Test.YtnodboggemggmaaGreatDoorSpanB
import Derived.Test.YtnodboggemggmaaGreatDoorDigits
import Derived.Test.YtnodboggemggmaaGreatDoorNum
namespace Go.Proofs.YtnodboggemggmaaGreatDoor
open Go Go.RowKit
set_option maxHeartbeats 2000000

def strN (l : List UInt8) : Int := decN l 4611686018427387904
def strB (l : List UInt8) : Bool := decide (decE l 4611686018427387904 = 0 ∧ Lib.itoa (strN l) = l)
theorem strN_bd (l : List UInt8) : 0 ≤ strN l ∧ strN l ≤ 4611686018427387904 := by
  have h := numN_bd l
  unfold numN at h
  unfold strN
  by_cases he : decE l 4611686018427387904 = 12
  · unfold decN; rw [if_neg (by omega)]; omega
  · rw [if_neg he] at h; exact h
theorem strB_star : strB [42] = false := by
  unfold strB
  have : decE [42] 4611686018427387904 = 11 := by unfold decE; exact if_pos (Or.inr rfl)
  rw [this]; simp

set_option maxRecDepth 100000 in
theorem exact_any (s : ByteArray) (w : World) (hE : EnvP w) (hs : s.size ≤ maxLen) :
    Calls Tryz.prog 75 #[.string s] w fun e w' => e = .returned (.tuple #[.int .i64 (strN (L s)), .bool (strB (L s))]) ∧ Below w.heap.size w w' := by
  have HE := Lib.hid hE; clear hE
  have hb := strN_bd (L s)
  have hB : strB (L s) = decide (decE (L s) 4611686018427387904 = 0 ∧ Lib.itoa (strN (L s)) = L s) := rfl
  have hq : ((bs (Lib.itoa (strN (L s)))).toList == s.toList) = decide (Lib.itoa (strN (L s)) = L s) := by rw [str_eq, L_bs]
  have hdn : Hid (decN (L s) 4611686018427387904 = strN (L s)) := rfl
  obtain ⟨N, hN⟩ := name_it (strN (L s))
  rw [hN.out] at hb hB hq hdn ⊢
  obtain ⟨x, hx⟩ := name_it (Lib.itoa N)
  rw [hx.out] at hB hq
  obtain ⟨E, hEe⟩ := name_it (decE (L s) 4611686018427387904)
  rw [hEe.out] at hB
  obtain ⟨B, hBB⟩ := name_it (strB (L s))
  rw [hBB.out] at hB ⊢
  clear hBB hN
  by_cases he : E = 0
  · subst he
    have hqb : ((bs x).toList == s.toList) = B := by rw [hq, hB]; simp
    clear hq hB
    go_enter Tryz.func75, Tryz.ntmps75
    go_wp2_with fail
    refine (decimal_any s 4611686018427387904 _ hs (by omega) (by omega)).mono ?_; rintro e w1 ⟨rfl, hb1⟩
    rw [hdn.out, hEe.out]
    have HE1 := Lib.hid (HE.out.next hb1)
    go_wp2_with fail
    refine (digits_any _ _ HE1.out (by omega) (by omega)).mono ?_; rintro e w2 ⟨rfl, hb2⟩
    rw [hx.out]
    have d2 := hb1.trans (hb2.mono hb1.size)
    go_wp2_with fail
    all_goals (try (exfalso; omega))
    go_ret2
    exact ⟨rfl, d2⟩
  · have hf : B = false := by rw [hB]; exact decide_eq_false (fun h => he h.1)
    have he2 : (E == 0) = false := by simp [he]
    subst hf
    clear hB hq
    go_enter Tryz.func75, Tryz.ntmps75
    go_wp2_with fail
    refine (decimal_any s 4611686018427387904 _ hs (by omega) (by omega)).mono ?_; rintro e w1 ⟨rfl, hb1⟩
    rw [hdn.out, hEe.out]
    go_wp2_with fail
    all_goals (try (exfalso; omega))
    go_ret2
    exact ⟨rfl, hb1⟩

def byW : List UInt8 := [98, 121, 116, 101, 115, 32]
def restL (l : List UInt8) : List UInt8 := if l.take 6 = byW then l.drop 6 else l
theorem cutPre_any (s : ByteArray) (w : World) :
    Calls Tryz.prog 74 #[.string s, .string ⟨#[98, 121, 116, 101, 115, 32]⟩] w fun e w' => e = .returned (.tuple #[.string (bs (restL (L s))), .bool (decide ((L s).take 6 = byW))]) ∧ Below w.heap.size w w' := by
  refine (Tryz.strings_CutPrefix s ⟨#[98, 121, 116, 101, 115, 32]⟩ w).mono ?_
  rintro e w' ⟨rfl, rfl⟩
  have h1 : Lib.hasPrefix s.data.toList (⟨#[98, 121, 116, 101, 115, 32]⟩ : ByteArray).data.toList = decide ((L s).take 6 = byW) := by
    unfold Lib.hasPrefix
    rw [Bool.eq_iff_iff, decide_eq_true_eq, List.isPrefixOf_iff_prefix, List.prefix_iff_eq_take]
    exact ⟨fun h => h.symm, fun h => h.symm⟩
  refine ⟨ret_val ?_, Below.refl _ _⟩
  have h2 : Lib.trimPrefix s.data.toList (⟨#[98, 121, 116, 101, 115, 32]⟩ : ByteArray).data.toList = restL (L s) := by
    unfold Lib.trimPrefix restL
    rw [h1]
    by_cases h : (L s).take 6 = byW
    · rw [if_pos h, if_pos (decide_eq_true h)]; rfl
    · rw [if_neg h, if_neg (by simp [h])]; rfl
  rw [h1, h2]; rfl

/-- what a content range says: both ends, the size, the error -/
def toldM (l : List UInt8) : Int × Int × Int × Int :=
  if decide (l.take 6 = byW) = false ∨ (idx 47 (restL l)).isSome = false then (0, 0, 0, 90)
  else if cutA 47 (restL l) = [42] ∧ strB (cutZ 47 (restL l)) = true then (0, 0, strN (cutZ 47 (restL l)), 0)
  else if (idx 45 (cutA 47 (restL l))).isSome = false ∨ strB (cutA 45 (cutA 47 (restL l))) = false ∨ strB (cutZ 45 (cutA 47 (restL l))) = false
      ∨ strN (cutA 45 (cutA 47 (restL l))) > strN (cutZ 45 (cutA 47 (restL l)))
      ∨ (cutZ 47 (restL l) ≠ [42] ∧ (strB (cutZ 47 (restL l)) = false ∨ strN (cutZ 45 (cutA 47 (restL l))) ≥ strN (cutZ 47 (restL l)))) then (0, 0, 0, 90)
  else (strN (cutA 45 (cutA 47 (restL l))), strN (cutZ 45 (cutA 47 (restL l))) + 1, if cutZ 47 (restL l) = [42] then -1 else strN (cutZ 47 (restL l)), 0)
def toldV (r : Int × Int × Int × Int) : Value := .tuple #[.agg #[.int .i64 r.1, .int .i64 r.2.1], .int .i64 r.2.2.1, .int .i64 r.2.2.2]

theorem told_cases {d ka kz kt : Bool} {A A' B B' T : Prop} (o1 : A ∨ A') (o2 : B ∨ B') (h : ¬ (T ∧ kt = true)) :
    d = false ∨ (d = true ∧ ka = false) ∨ (d = true ∧ ka = true ∧ kz = false) ∨ (d = true ∧ ka = true ∧ kz = true ∧ A) ∨ (d = true ∧ ka = true ∧ kz = true ∧ A' ∧ ¬ T ∧ kt = false)
      ∨ (d = true ∧ ka = true ∧ kz = true ∧ A' ∧ ¬ T ∧ kt = true ∧ B) ∨ (d = true ∧ ka = true ∧ kz = true ∧ A' ∧ ¬ T ∧ kt = true ∧ B') ∨ (d = true ∧ ka = true ∧ kz = true ∧ A' ∧ T ∧ kt = false) := by
  by_cases ht : T <;> cases d <;> cases ka <;> cases kz <;> cases kt <;> rcases o1 with o1 | o1 <;> rcases o2 with o2 | o2 <;> simp_all
theorem told_ok {d ka kz kt : Bool} {na nz nt : Int} {t : List UInt8} (h4 : d = true) (h5 : ka = true) (h6 : kz = true) (h7 : na ≤ nz) (h : t ≠ [42] → kt = true ∧ nz < nt) :
    ¬ (d = false ∨ ka = false ∨ kz = false ∨ na > nz ∨ (t ≠ [42] ∧ (kt = false ∨ nz ≥ nt))) := by
  rintro (h1 | h1 | h1 | h1 | ⟨h1, h2 | h2⟩)
  · rw [h4] at h1; exact absurd h1 (by decide)
  · rw [h5] at h1; exact absurd h1 (by decide)
  · rw [h6] at h1; exact absurd h1 (by decide)
  · omega
  · rw [(h h1).1] at h2; exact absurd h2 (by decide)
  · have := (h h1).2; omega

end Go.Proofs.YtnodboggemggmaaGreatDoor
