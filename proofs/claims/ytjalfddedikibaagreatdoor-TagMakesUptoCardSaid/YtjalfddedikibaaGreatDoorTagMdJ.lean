/- Contract of the document's Make. -/
import Derived.Test.YtjalfddedikibaaGreatDoorTagMcJ
namespace Go.Proofs.YtjalfddedikibaaGreatDoor
open Go Go.RowKit
set_option maxHeartbeats 4000000

set_option maxRecDepth 100000 in
theorem rmake_any (s : ByteArray) (b : Bool) (w : World) (hs : s.size ≤ 1048576) :
    Calls Tryz.prog 16 #[.string s, .bool b] w fun e w' => e = .returned (.agg #[.bool b, .string (bs (makeT (L s)))]) ∧ Below w.heap.size w w' := by
  have HF := Lib.hid (fun wx => rfnv_any s wx hs)
  have hr := hashI_range (L s)
  have HT : Hid (makeT (L s) = hexL (bytesH (hashI (L s)) 8) ++ [45] ++ Lib.decDigits (L s).length) := rfl
  rw [L_length] at HT
  obtain ⟨n, hn⟩ := name_it (hashI (L s))
  rw [hn.out] at HF hr HT
  obtain ⟨n0, n1⟩ := hr
  obtain ⟨R, hR⟩ := name_it (makeT (L s))
  rw [hR.out] at HT ⊢
  have HX := Lib.hid (fun wx => rhex_any (bs (bytesH n 8)) wx (by rw [size_bs, bytesH_len]; decide))
  rw [L_bs] at HX
  have hxl := hexL_len (bytesH n 8)
  rw [bytesH_len] at hxl
  have hdl := decDigits_short s.size hs
  have HI := Lib.hid (fun wx => rdig8_any s.size wx hs)
  obtain ⟨X, hX⟩ := name_it (bs (hexL (bytesH n 8)))
  rw [hX.out] at HX
  have hXz : X.size = 16 := by rw [← hX.out, size_bs]; omega
  have HXL : Hid (L X = hexL (bytesH n 8)) := by unfold Hid; rw [← hX.out, L_bs]
  obtain ⟨I, hI⟩ := name_it (bs (Lib.decDigits s.size))
  have hIz : I.size ≤ 21 := by rw [← hI.out, size_bs]; exact hdl
  have HIL : Hid (L I = Lib.decDigits s.size) := by unfold Hid; rw [← hI.out, L_bs]
  rw [hI.out] at HI
  clear hn hR hX hxl hdl hI
  obtain ⟨i0, hi, hz0, hz1, hz2⟩ := info_parts infoU8
  have A0 : Hid (Blk (w.alloc (.cells #[.bool false, .string ⟨#[]⟩] tRT)) w.heap.size tRT #[.bool false, .string ⟨#[]⟩]) := Blk.new w tRT _
  have B0 : Hid (Below w.heap.size w (w.alloc (.cells #[.bool false, .string ⟨#[]⟩] tRT))) := (Below.refl _ _).alloc (Nat.le_refl _) _
  go_enter Tryz.func16, Tryz.ntmps16
  go_wp2_with fail
  refine (HF.out _).mono ?_; rintro e w1 ⟨rfl, h1⟩
  rw [h1] at A0 B0
  have O0 : Hid (w1.ownsRow w1.heap.size 5 1 (.slice none 0 0) 0 (byV (bytesH n 0))) := World.ownsRow_nil ..
  have K0 : Hid (Below w1.heap.size w1 w1) := Below.refl _ _
  clear h1
  go_wp2_with fail
  go_loopw [6, 7] (fun out i wr => ∃ (k : Nat), k ≤ 8 ∧ i = .int .i64 k ∧ Hid (wr.ownsRow w1.heap.size 5 1 out k (byV (bytesH n k))) ∧ Hid (Below w1.heap.size w1 wr)) (fun _ i _ => 8 - (intOf i).toNat)
  case atStart => exact ⟨0, by omega, rfl, O0, K0⟩
  clear O0 K0
  case round =>
    obtain ⟨k, hk, rfl, hO, hB⟩ := hrel
    obtain ⟨wq, hwq⟩ : ∃ wq, wq = wr := ⟨wr, rfl⟩
    subst hwq
    obtain ⟨so, co, hout⟩ := row_slice hO.out
    subst hout
    by_cases hlt : k < 8
    · have q0 : (0 : Int) ≤ (k : Int) := by omega
      have q1 : (k : Int) < 8 := by omega
      have HS : Hid (byV (bytesH n (k + 1)) = byV (bytesH n k) ++ [.int .u8 (n / 2 ^ (56 - 8 * k) % 256)]) := by
        unfold Hid; rw [bytesH_succ, byV_app]; show _ ++ [Value.int .u8 ((byH n k).toNat : Int)] = _; rw [byH_eq]
      go_wp2_with (at_builtin; refine appendC rfl _ _ 77 rfl w1.heap.size 5 i0 (.int .u8 0) 1 1 Tryz.underlying77 hi hz0 hz1 hz2 rfl (by decide) hO.out rfl #[.int .u8 (n / 2 ^ (56 - 8 * k) % 256)] rfl (by intro u hu; simp only [List.mem_cons, List.not_mem_nil, or_false] at hu; rcases hu with rfl; rfl) rfl (by first | rfl | (simp; done)) ?_ ?_ ?_ ?_)
      · unfold maxLen; omega
      · omega
      · exact hB.out.size
      intro g7 c7 w7 hown7 b7
      have O7 : Hid (w7.ownsRow w1.heap.size 5 1 (.slice (some ⟨g7, 0, none⟩) (k + 1) c7) (k + 1) (byV (bytesH n (k + 1)))) := by
        unfold Hid; rw [HS.out]; exact hown7
      have B7 := Lib.hid (hB.out.trans b7)
      clear hown7 b7
      go_wp2_with fail
      all_goals (try (exfalso; omega))
      go_roundw
      case rel => exact ⟨k + 1, by omega, by go_num, O7, B7⟩
      case measure => simp [intOf] <;> omega
    · obtain rfl : k = 8 := by omega
      have hback := own_string (P := Tryz.prog) 77 9 5 hO.out Tryz.underlying77 Tryz.underlying5 Tryz.underlying9
      have A2 : Hid (Blk wq w.heap.size tRT #[.bool false, .string ⟨#[]⟩]) := A0.out.below hB.out A0.out.lt
      have B2 : Hid (Below w.heap.size w wq) := B0.out.trans (hB.out.mono B0.out.size)
      clear hO hB
      go_wp2_with fail
      all_goals (try (exfalso; omega))
      refine (HX.out _).mono ?_; rintro e w3 ⟨rfl, b3⟩
      have A3 := Lib.hid (A2.out.below b3 A2.out.lt)
      have B3 := Lib.hid (B2.out.trans (b3.mono B2.out.size))
      clear b3 A2 B2 hback HX
      go_wp2_with fail
      all_goals (try (exfalso; omega))
      refine (HI.out _).mono ?_; rintro e w4 ⟨rfl, b4⟩
      have A4 := Lib.hid (A3.out.below b4 A3.out.lt)
      have B4 := Lib.hid (B3.out.trans (b4.mono B3.out.size))
      clear b4 A3 B3 HI
      have y0 : w4.cell? ⟨w.heap.size, 0, none⟩ = some (.bool false) := A4.out.cell 0
      have y1 : w4.cell? ⟨w.heap.size, 1, none⟩ = some (.string ⟨#[]⟩) := A4.out.cell 1
      have f0 : w4.frozen? ⟨w.heap.size, 0, none⟩ = false := A4.out.frozen 0
      have f1 : w4.frozen? ⟨w.heap.size, 1, none⟩ = false := A4.out.frozen 1
      have F5 := fun v1 v2 => Lib.hid ((A4.out.set 0 v1).set 1 v2)
      have B5 := fun v1 v2 => Lib.hid ((B4.out.setCell (p := ⟨w.heap.size, 0, none⟩) (Nat.le_refl _) v1).setCell (p := ⟨w.heap.size, 1, none⟩) (Nat.le_refl _) v2)
      have hz45 : (⟨#[45]⟩ : ByteArray).size = 1 := rfl
      go_wp2_with fail
      all_goals (try (exfalso; omega))
      have hbs : bs R = X ++ ⟨#[45]⟩ ++ I := by
        apply L_inj.1
        rw [L_bs, HT.out, ← HXL.out, ← HIL.out]
        simp [L, ByteArray.data_append]
      have F6 := F5 (.bool b) (.string (X ++ ⟨#[45]⟩ ++ I))
      have z0 : ((w4.setCell ⟨w.heap.size, 0, none⟩ (.bool b)).setCell ⟨w.heap.size, 1, none⟩ (.string (X ++ ⟨#[45]⟩ ++ I))).cell? ⟨w.heap.size, 0, none⟩ = some (.bool b) := F6.out.cell 0
      have z1 : ((w4.setCell ⟨w.heap.size, 0, none⟩ (.bool b)).setCell ⟨w.heap.size, 1, none⟩ (.string (X ++ ⟨#[45]⟩ ++ I))).cell? ⟨w.heap.size, 1, none⟩ = some (.string (X ++ ⟨#[45]⟩ ++ I)) := F6.out.cell 1
      refine bodyPost_ret (v := .agg #[.bool b, .string (X ++ ⟨#[45]⟩ ++ I)]) (by simp [results, Tryz.results16, go_sem, z0, z1]) rfl ⟨by rw [hbs], (B5 _ _).out⟩
end Go.Proofs.YtjalfddedikibaaGreatDoor
