/- Contracts of the boundaries: Stands, Boundary of both; the law SpanMarks. -/
import Derived.Test.YtnodboggemggmaaGreatDoorSpanH
import Derived.Test.YtnodboggemggmaaGreatDoorDigits
import Derived.Test.YtnodboggemggmaaGreatDoorNum
namespace Go.Proofs.YtnodboggemggmaaGreatDoor
open Go Go.RowKit
set_option maxHeartbeats 2000000

theorem contains_any (s t : ByteArray) (w : World) (hE : Env w) (hs : s.size ≤ 4000000000) :
    Calls Tryz.prog 23 #[.string s, .string t] w fun e w' => e = .returned (.bool (Lib.contains (L s) (L t))) ∧ Below w.heap.size w w' := by
  obtain ⟨m, hm⟩ := hE.max
  refine (Tryz.strings_Contains s t m w (by omega) hm).mono ?_
  rintro e w' ⟨rfl, rfl⟩
  exact ⟨rfl, Below.refl _ _⟩
theorem occ_slice {s t : ByteArray} {k : Nat} : ((s.extract k (k + t.size)).toList == t.toList) = Lib.occAt (L s) (L t) k := by
  rw [str_eq]
  unfold Lib.occAt
  have e : L (s.extract k (k + t.size)) = ((L s).drop k).take (L t).length := by
    rw [L_length]
    simp [L, ByteArray.data_extract, List.take_drop, Array.toList_extract, List.extract]
  rw [e, Bool.eq_iff_iff, decide_eq_true_eq, List.isPrefixOf_iff_prefix, List.prefix_iff_eq_take]
  exact ⟨fun h => h.symm, fun h => h.symm⟩
theorem contains_hit {s t : List UInt8} {k : Nat} (hk : k ≤ s.length) (h : Lib.occAt s t k = true) : Lib.contains s t = true := by
  unfold Lib.contains
  rcases Lib.index_spec s t with ⟨_, h2⟩ | ⟨i, h1, _⟩
  · rw [h2 k hk] at h; exact absurd h (by decide)
  · rw [h1]; exact decide_eq_true (by omega)
theorem contains_miss {s t : List UInt8} {k : Nat} (hn : ∀ j, j < k → Lib.occAt s t j = false) (hk : s.length < k + t.length) : Lib.contains s t = false := by
  unfold Lib.contains
  rcases Lib.index_spec s t with ⟨h1, _⟩ | ⟨i, h1, _, h3, _⟩
  · rw [h1]; rfl
  · have hr := Lib.index_room s t (by omega)
    have := hn i (by omega)
    rw [this] at h3; exact absurd h3 (by decide)

theorem stand_cat (n : Nat) (x : List UInt8) (hx : Lib.itoa n = x) : ((⟨#[45, 45]⟩ : ByteArray) ++ (⟨#[112, 97, 114, 116]⟩ ++ bs x) = bs (standL n)) ∧ ((⟨#[45, 45, 112, 97, 114, 116]⟩ : ByteArray) ++ bs x = bs (standL n)) ∧ ((⟨#[112, 97, 114, 116]⟩ : ByteArray) ++ bs x = bs (markL n)) := by
  subst hx
  have e : ∀ a b : List UInt8, bs a ++ bs b = bs (a ++ b) := by intro a b; apply L_inj.1; simp [L, bs, ByteArray.data_append]
  refine ⟨?_, ?_, ?_⟩
  · show bs [45, 45] ++ (bs [112, 97, 114, 116] ++ bs _) = _; rw [e, e]; rfl
  · show bs [45, 45, 112, 97, 114, 116] ++ bs _ = _; rw [e]; rfl
  · show bs [112, 97, 114, 116] ++ bs _ = _; rw [e]; rfl

set_option maxRecDepth 100000 in
theorem boundary_any (s : ByteArray) (M : Nat) (w : World) (hE : EnvP w) (hs : s.size ≤ 1048576) (hM : M ≤ 3000000) (hf : Hid (hasN (L s) M = false)) (ht : Hid (∀ j, j < M → hasN (L s) j = true)) :
    Calls Tryz.prog 8 #[.string s] w fun e w' => e = .returned (.string (bs (markL M))) ∧ Below w.heap.size w w' := by
  have HE := Lib.hid hE; clear hE
  obtain ⟨R, hR⟩ := name_it (bs (markL M))
  rw [hR.out]
  go_enter Tryz.func8, Tryz.ntmps8
  go_wp2_with fail
  go_loopw [3] (fun i wr => ∃ k : Nat, k ≤ M ∧ i = .int .i64 k ∧ Below w.heap.size w wr ∧ Hid (EnvP wr)) (fun i _ => M - (intOf i).toNat)
  case atStart => exact ⟨0, by omega, rfl, Below.refl _ _, HE⟩
  case round =>
    obtain ⟨k, hk, rfl, hbr, HR⟩ := hrel
    have hl := Lib.itoa_length_le (k : Int) (by omega) (by omega)
    obtain ⟨x, hx⟩ := name_it (Lib.itoa (k : Int))
    obtain ⟨c1, -, c3⟩ := stand_cat k x hx.out
    rw [hx.out] at hl
    have hsz : (bs x).size ≤ 21 := by rw [size_bs]; exact hl
    obtain ⟨T, hT⟩ := name_it (bs (standL k))
    rw [hT.out] at c1
    have HC1 := Lib.hid c1
    have HC3 := Lib.hid c3
    clear c1 c3
    by_cases hlt : k < M
    · have hc : Hid (Lib.contains (L s) (L T) = true) := by rw [← hT.out, L_bs]; exact ht.out k hlt
      clear hT
      go_wp2_with fail
      all_goals (try (exfalso; omega))
      refine (digits_any _ _ HR.out (by omega) (by omega)).mono ?_; rintro e w1 ⟨rfl, hb1⟩
      rw [hx.out]
      have HR1 := Lib.hid (HR.out.next hb1)
      have d1 := hbr.trans (hb1.mono hbr.size)
      go_wp2_with fail
      all_goals (try (exfalso; omega))
      rw [HC1.out]
      refine (contains_any _ _ _ HR1.out.env (by omega)).mono ?_; rintro e w2 ⟨rfl, hb2⟩
      rw [hc.out]
      have HR2 := Lib.hid (HR1.out.next hb2)
      have d2 := d1.trans (hb2.mono d1.size)
      go_wp2_with fail
      all_goals (try (exfalso; omega))
      go_roundw
      case rel => exact ⟨k + 1, by omega, by go_num, d2, HR2⟩
      case measure => simp [intOf]; omega
    · obtain rfl : k = M := by omega
      have hc : Hid (Lib.contains (L s) (L T) = false) := by rw [← hT.out, L_bs]; exact hf.out
      clear hT
      go_wp2_with fail
      all_goals (try (exfalso; omega))
      refine (digits_any _ _ HR.out (by omega) (by omega)).mono ?_; rintro e w1 ⟨rfl, hb1⟩
      rw [hx.out]
      have HR1 := Lib.hid (HR.out.next hb1)
      have d1 := hbr.trans (hb1.mono hbr.size)
      go_wp2_with fail
      all_goals (try (exfalso; omega))
      rw [HC1.out]
      refine (contains_any _ _ _ HR1.out.env (by omega)).mono ?_; rintro e w2 ⟨rfl, hb2⟩
      rw [hc.out]
      have d2 := d1.trans (hb2.mono d1.size)
      go_wp2_with fail
      all_goals (try (exfalso; omega))
      go_ret
      exact ⟨by rw [← hR.out, ← HC3.out]; rfl, d2⟩

end Go.Proofs.YtnodboggemggmaaGreatDoor
