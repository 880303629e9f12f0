/- Contracts of octet: signs of tokens, by the table. -/
import Derived.Test.YtfgaiopkclogmaaDoorLedgA
namespace Go.Proofs.YtfgaiopkclogmaaDoor
open Go Go.RowKit
set_option maxHeartbeats 4000000

def signsT : List Nat := [0, 67071226, 3355443198, 1476395007]
/-- what the program's variable holds -/
structure EnvT (w : World) : Prop where
  n : 5 ≤ w.heap.size
  sg : ∀ j, j < 4 → w.cell? ⟨0, j, none⟩ = some (.int .u32 ((signsT.getD j 0 : Nat) : Int))
theorem EnvT.next {w w' : World} (h : EnvT w) (hb : Below w.heap.size w w') : EnvT w' where
  n := Nat.le_trans h.n hb.size
  sg j hj := by rw [hb.cell (p := ⟨0, j, none⟩) (Nat.lt_of_lt_of_le (by show 0 < 5; decide) h.n)]; exact h.sg j hj

theorem signs_low : ∀ p : Fin 128, (bits BinOp.and IntKind.u32 (((signsT.getD (p.val / 32) 0 : Nat) : Int) / 2 ^ (p.val % 32)) 1 == 1) = signB (UInt8.ofNat p.val) := by decide +kernel
theorem signs_high : ∀ p : Fin 256, 128 ≤ p.val → signB (UInt8.ofNat p.val) = false := by decide +kernel

set_option maxRecDepth 100000 in
theorem osign_any (c : UInt8) (w : World) (hE : EnvT w) : Calls Tryd.prog 64 #[.int .u8 c.toNat] w fun e w' => e = .returned (.bool (signB c)) ∧ w = w' := by
  obtain ⟨R, hR⟩ := name_it (signB c)
  rw [hR.out]
  by_cases h : c.toNat < 128
  · have hc := hE.sg (c.toNat / 32) (by omega)
    obtain ⟨T, hT⟩ := name_it ((signsT.getD (c.toNat / 32) 0 : Nat) : Int)
    rw [hT.out] at hc
    have q0 : (0 : Int) ≤ (c.toNat : Int) := by omega
    have q1 : (c.toNat : Int) < 128 := by omega
    go_enter Tryd.func64, Tryd.ntmps64
    go_wp2_with fail
    all_goals (try (exfalso; omega))
    go_ret
    refine ⟨ret_bool ?_, rfl⟩
    rw [← hT.out, ← hR.out]
    have := signs_low ⟨c.toNat, h⟩
    rw [show UInt8.ofNat (Fin.val (⟨c.toNat, h⟩ : Fin 128)) = c from UInt8.ofNat_toNat] at this
    exact this
  · have hf : Hid (R = false) := by
      have := signs_high ⟨c.toNat, c.toNat_lt⟩ (by show 128 ≤ c.toNat; omega)
      rw [show UInt8.ofNat (Fin.val (⟨c.toNat, c.toNat_lt⟩ : Fin 256)) = c from UInt8.ofNat_toNat] at this
      rw [← hR.out]; exact this
    clear hR
    go_enter Tryd.func64, Tryd.ntmps64
    go_wp2_with fail
    all_goals (try (exfalso; omega))
    go_ret
    exact ⟨ret_bool hf.out.symm, rfl⟩

set_option maxRecDepth 100000 in
theorem istoken_any (s : ByteArray) (w : World) (hE : EnvT w) (hs : s.size ≤ 1073741824) : Calls Tryd.prog 51 #[.string s] w fun e w' => e = .returned (.bool ((L s).all signB && decide (L s ≠ []))) ∧ w = w' := by
  obtain ⟨R, hR⟩ := name_it ((L s).all signB && decide (L s ≠ []))
  rw [hR.out]
  have HS := Lib.hid (fun c => osign_any c w hE)
  obtain ⟨A, hA⟩ := name_it ((L s).all signB)
  rw [hA.out] at hR
  go_enter Tryd.func51, Tryd.ntmps51
  go_wp2_with fail
  go_loop [3, 6] (fun _ i => ∃ k : Nat, k ≤ s.size ∧ i = .int .i64 k ∧ Hid (((L s).drop k).all signB = A)) (fun _ i => s.size - (intOf i).toNat)
  case atStart => exact ⟨0, Nat.zero_le _, rfl, hA⟩
  case round =>
    obtain ⟨k, hk, rfl, hr⟩ := hrel
    by_cases hlt : k < s.size
    · cases hb : signB s[k]
      · have hr2 := hr.out
        rw [L_drop hlt, List.all_cons, hb] at hr2
        have hf : Hid (R = false) := by rw [← hR.out, ← hr2]; rfl
        have HK := Lib.hid (HS.out s[k])
        rw [hb] at HK
        clear hr2 hr
        go_wp2_with (go_at_call 64; refine HK.out.mono ?_; rintro e w' ⟨rfl, rfl⟩)
        go_ret
        exact ⟨ret_bool hf.out.symm, rfl⟩
      · have hr2 := hr.out
        rw [L_drop hlt, List.all_cons, hb] at hr2
        have HR := Lib.hid hr2
        have HK := Lib.hid (HS.out s[k])
        rw [hb] at HK
        clear hr2 hr
        go_wp2_with (go_at_call 64; refine HK.out.mono ?_; rintro e w' ⟨rfl, rfl⟩)
        go_round
        case rel => exact ⟨k + 1, by omega, by go_num, Lib.hid (by have h := HR.out; simpa using h)⟩
        case measure => simp [intOf]; omega
    · obtain rfl : k = s.size := by omega
      rw [L_drop_all] at hr
      have hA2 : Hid (A = true) := hr.out.symm
      have hR2 : Hid (R = decide (L s ≠ [])) := by rw [← hR.out, hA2.out]; unfold Hid; rw [Bool.true_and]
      clear hr
      go_wp2_with fail
      go_ret
      exact ⟨ret_bool (by rw [hR2.out]; (try simp only []); simp; exact str_empty s), rfl⟩

set_option maxRecDepth 100000 in
theorem issign_any (c : UInt8) (w : World) (hE : EnvT w) : Calls Tryd.prog 27 #[.int .u8 c.toNat] w fun e w' => e = .returned (.bool (signB c)) ∧ Below w.heap.size w w' := by
  obtain ⟨R, hR⟩ := name_it (signB c)
  rw [hR.out]
  have HE := Lib.hid hE; clear hE
  have hcv : (convert 68 9 (.slice (some ⟨w.heap.size, 0, none⟩) 1 1)).run Tryd.prog (w.alloc (.cells #[.int .u8 c.toNat] 5)) = .ok (.string (bs [c])) (w.alloc (.cells #[.int .u8 c.toNat] 5)) := by
    refine run_convert_bytes_back _ 68 9 5 ⟨w.heap.size, 0, none⟩ 1 [c] Tryd.underlying68 Tryd.underlying5 Tryd.underlying9 fun j hj => ?_
    obtain rfl : j = 0 := by simp at hj; omega
    exact World.cell?_alloc_mark w #[.int .u8 c.toNat] 5 (0, 0) 0
  have hb1 : Below w.heap.size w (w.alloc (.cells #[.int .u8 c.toNat] 5)) := (Below.refl _ _).alloc (Nat.le_refl _) _
  have HK := Lib.hid (istoken_any (bs [c]) _ (HE.out.next hb1) (by rw [size_bs]; show 1 ≤ 1073741824; decide))
  have hv : ((L (bs [c])).all signB && decide (L (bs [c]) ≠ [])) = R := by rw [← hR.out, L_bs]; simp
  rw [hv] at HK
  go_enter Tryd.func27, Tryd.ntmps27
  go_wp2_with fail
  refine HK.out.mono ?_; rintro e w' ⟨rfl, rfl⟩
  go_wp2_with fail
  go_ret
  exact ⟨rfl, hb1⟩
end Go.Proofs.YtfgaiopkclogmaaDoor
