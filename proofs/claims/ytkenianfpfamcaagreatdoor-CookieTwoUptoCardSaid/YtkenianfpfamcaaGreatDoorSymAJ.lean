/- The stable sort's exchanges: a block for a block, two neighbours turned. -/
import Derived.Test.YtkenianfpfamcaaGreatDoorSa
import Derived.Shelf.SlSortCmp.Insertion1
import Derived.Lib.Hide
import Derived.Test.YtkenianfpfamcaaGreatDoorProg
namespace Go.Proofs.YtkenianfpfamcaaGreatDoor
open Go Go.RowKit Go.Sort Go.Shelf Go.Lib
set_option maxHeartbeats 16000000
variable {α : Type} [Inhabited α]

set_option maxRecDepth 100000 in
theorem swapRange_s (enc : α → Value) (fv : Value) (blk off cap a b n : Nat) (d0 d : Array α) (w0 w : World)
    (R : Row1 enc w0 blk off d0) (hs : d0.size = d.size) (S : SW enc w0 blk off d w) (ha : a + n ≤ d.size) (hb : b + n ≤ d.size) (hsz : d.size < 4611686018427387904) :
    Calls Tryz.prog 231 #[.slice (some ⟨blk, off, none⟩) d.size cap, .int .i64 a, .int .i64 b, .int .i64 n, fv] w fun e w' => e = .returned (.tuple #[]) ∧ SW enc w0 blk off (swapR a b n d) w' := by
  have mixed : Tryz.prog.follows Departure.mixedOrders = true := by kernel_rfl
  have t3 := Tryz.underlying3; have a3 := Tryz.isAgg3; have z3 := Tryz.sizeOf3
  have t22 := Tryz.underlying124; have a22 := Tryz.isAgg124; have z22 := Tryz.sizeOf124
  have a24 := Tryz.isAgg117; have z24 := Tryz.sizeOf117
  have u22 := run_underlying t22
  have hcl0 := R.hO.cells
  simp only [Value.cells] at hcl0
  have hst := R.hO.store Tryz.prog
  have S0 : Aside (SW enc w0 blk off d w) := S
  clear S
  go_enter Tryz.func231, Tryz.ntmps231
  go_wp2
  go_loopg [10] n (fun kx s wr => ∃ (i : Nat) (dk : Array α), s = .int .i64 i ∧ i ≤ n ∧ n - i ≤ kx ∧ dk.size = d.size ∧ Aside (SW enc w0 blk off dk wr) ∧ Hid (swapR (a + i) (b + i) (n - i) dk = swapR a b n d))
  case atStart => exact ⟨0, d, rfl, Nat.zero_le _, Nat.le_refl _, rfl, S0, rfl⟩
  case round =>
    clear S0
    obtain ⟨i, dk, rfl, hin, hkx, hds, S1, HO⟩ := hrel
    by_cases hlt : i < n
    · have hltz : (i : Int) < (n : Int) := by omega
      go_wp2_with fail
      obtain ⟨iN1, hiN1⟩ : ∃ q, q = a + i := ⟨_, rfl⟩
      obtain ⟨jN1, hjN1⟩ : ∃ q, q = b + i := ⟨_, rfl⟩
      have ea1 : ((a : Int) + (i : Int)).toNat = iN1 := by omega
      have pa1 : (0 : Int) ≤ (a : Int) + (i : Int) := by omega
      have ba1 : (a : Int) + (i : Int) < (d.size : Int) := by omega
      have ra1 : IntKind.i64.wrap ((a : Int) + (i : Int)) = (a : Int) + (i : Int) := by rw [IntKind.wrap_i64]; omega
      have ec1 : ((b : Int) + (i : Int)).toNat = jN1 := by omega
      have pc1 : (0 : Int) ≤ (b : Int) + (i : Int) := by omega
      have bc1 : (b : Int) + (i : Int) < (d.size : Int) := by omega
      have rc1 : IntKind.i64.wrap ((b : Int) + (i : Int)) = (b : Int) + (i : Int) := by rw [IntKind.wrap_i64]; omega
      obtain ⟨x1, hx1⟩ : ∃ x, x = dk[a + i]! := ⟨_, rfl⟩
      obtain ⟨y1, hy1⟩ : ∃ x, x = dk[b + i]! := ⟨_, rfl⟩
      have S2 : Aside (SW enc w0 blk off (swp dk (a + i) (b + i)) ((wr.setCell ⟨blk, off + iN1, none⟩ (enc y1)).setCell ⟨blk, off + jN1, none⟩ (enc x1)).drew) := by rw [hiN1, hjN1, hx1, hy1]; exact S1.out.swapped R (a + i) (b + i) (by omega) (by omega)
      have c1a := S1.out.c1 R (by omega) (a + i) (by omega)
      have c1b := S1.out.c1 R (by omega) (b + i) (by omega)
      have f1a := S1.out.f1 R (by omega) (a + i) (by omega)
      have f1b := S1.out.f1 R (by omega) (b + i) (by omega)
      obtain ⟨u1, c1c⟩ := S1.out.c2 R (by omega) (a + i) (b + i) (by omega) (by omega) (enc y1)
      rw [← hjN1, ← hiN1] at c1c
      rw [← hx1, ← hiN1] at c1a
      rw [← hy1, ← hjN1] at c1b
      rw [← hiN1] at f1a
      rw [← hjN1] at f1b
      clear S1 hx1 hy1 hiN1 hjN1
      go_wp2_with fail
      go_big_region_o
      clear c1a c1b c1c f1a f1b
      generalize ((wr.setCell ⟨blk, off + iN1, none⟩ (enc y1)).setCell ⟨blk, off + jN1, none⟩ (enc x1)).drew = w2 at S2 ⊢
      clear ea1 ec1 pa1 ba1 ra1 pc1 bc1 rc1
      go_wp2
      go_roundg (n - (i + 1))
      case measure => omega
      case rel => exact ⟨i + 1, swp dk (a + i) (b + i), by go_num, by omega, Nat.le_refl _, by rw [size_swp]; exact hds, S2, (show Hid _ from by
        rw [← HO.out, show n - i = (n - (i + 1)) + 1 by omega, swapR]; rfl)⟩
    · have hltz : ¬ (i : Int) < (n : Int) := by omega
      go_wp2
      go_end0
      refine ⟨rfl, ?_⟩
      have e := HO.out
      rw [show n - i = 0 by omega, swapR] at e
      rw [← e]; exact S1.out
set_option maxRecDepth 100000 in
theorem rotate_s (enc : α → Value) (fv : Value) (blk off cap a m b : Nat) (d0 d : Array α) (w0 w : World)
    (R : Row1 enc w0 blk off d0) (hs : d0.size = d.size) (S : SW enc w0 blk off d w) (ham : a < m) (hmb : m < b) (hb : b ≤ d.size) (hsz : d.size < 4611686018427387904) :
    Calls Tryz.prog 211 #[.slice (some ⟨blk, off, none⟩) d.size cap, .int .i64 a, .int .i64 m, .int .i64 b, fv] w fun e w' => e = .returned (.tuple #[]) ∧ SW enc w0 blk off (rotR m (m - a) (b - m) d) w' := by
  have SR := Lib.hid (fun (p q n : Nat) (dk : Array α) (hk : dk.size = d.size) (wx : World) (Sx : SW enc w0 blk off dk wx) (hp : p + n ≤ d.size) (hq : q + n ≤ d.size) => swapRange_s enc fv blk off cap p q n d0 dk w0 wx R (hs.trans hk.symm) Sx (by omega) (by omega) (by omega))
  have S0 : Aside (SW enc w0 blk off d w) := S
  clear S
  go_enter Tryz.func211, Tryz.ntmps211
  go_wp2
  go_loopg [10, 11] (b - a) (fun kx s t wr => ∃ (i j : Nat) (dk : Array α), s = .int .i64 i ∧ t = .int .i64 j ∧ 0 < i ∧ 0 < j ∧ i ≤ m - a ∧ j ≤ b - m ∧ i + j ≤ kx ∧ dk.size = d.size ∧ Aside (SW enc w0 blk off dk wr) ∧ Hid (rotR m i j dk = rotR m (m - a) (b - m) d))
  case atStart => exact ⟨m - a, b - m, d, by go_num, by go_num, by omega, by omega, Nat.le_refl _, Nat.le_refl _, by omega, rfl, S0, rfl⟩
  case round =>
    clear S0
    obtain ⟨i, j, dk, rfl, rfl, hi0, hj0, him, hjb, hkx, hds, S1, HO⟩ := hrel
    have zmi : (m : Int) - (i : Int) = ((m - i : Nat) : Int) := by omega
    by_cases he : i = j
    · subst he
      have hc := Lib.hid (SR.out (m - i) m i dk hds wr S1.out (by omega) (by omega))
      rw [hds] at hc
      go_wp2_with fail
      refine hc.out.mono ?_; rintro e w2 ⟨rfl, S2⟩
      have S3 : Aside _ := S2
      clear S2 hc S1
      go_wp2
      go_end0
      refine ⟨rfl, ?_⟩
      have e := HO.out
      rw [rotR_eq m i (by omega)] at e
      rw [← e]; exact S3.out
    · have hez : ¬ (i : Int) = (j : Int) := by omega
      by_cases hg : j < i
      · have hgz : (j : Int) < (i : Int) := by omega
        have hc := Lib.hid (SR.out (m - i) m j dk hds wr S1.out (by omega) (by omega))
        rw [hds] at hc
        go_wp2_with fail
        refine hc.out.mono ?_; rintro e w2 ⟨rfl, S2⟩
        have S3 : Aside _ := S2
        clear S2 hc S1
        go_wp2
        go_roundg (i - j + j)
        case measure => omega
        case rel => exact ⟨i - j, j, swapR (m - i) m j dk, by go_num, rfl, by omega, by omega, by omega, by omega, Nat.le_refl _, by rw [size_swapR]; exact hds, S3, (show Hid _ from by
          rw [← HO.out, rotR_gt m i j (by omega) hg]; rfl)⟩
      · have hgz : ¬ (j : Int) < (i : Int) := by omega
        have hc := Lib.hid (SR.out (m - i) (m + j - i) i dk hds wr S1.out (by omega) (by omega))
        rw [hds] at hc
        have zmj : (m : Int) + (j : Int) - (i : Int) = ((m + j - i : Nat) : Int) := by omega
        go_wp2_with fail
        refine hc.out.mono ?_; rintro e w2 ⟨rfl, S2⟩
        have S3 : Aside _ := S2
        clear S2 hc S1
        go_wp2
        go_roundg (i + (j - i))
        case measure => omega
        case rel => exact ⟨i, j - i, swapR (m - i) (m + j - i) i dk, rfl, by go_num, by omega, by omega, by omega, by omega, Nat.le_refl _, by rw [size_swapR]; exact hds, S3, (show Hid _ from by
          rw [← HO.out, rotR_lt m i j (by omega) (by omega)]; rfl)⟩
end Go.Proofs.YtkenianfpfamcaaGreatDoor
