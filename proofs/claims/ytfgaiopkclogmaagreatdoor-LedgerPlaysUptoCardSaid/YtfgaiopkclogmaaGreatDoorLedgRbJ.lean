/- The law's comparison of tallies: the same texts with the same counts. -/
import Derived.Test.YtfgaiopkclogmaaGreatDoorLedgRaJ
namespace Go.Proofs.YtfgaiopkclogmaaGreatDoor
open Go Go.RowKit Go.MuLone
set_option maxHeartbeats 8000000

set_option maxRecDepth 100000 in
theorem ltallied_any (va vb : Value) (Ba Bb : Nat) (c : List (Tx × Int)) (w : World) (ha : w.ownsRow Ba tTl 2 va c.length (rowT c)) (hb : w.ownsRow Bb tTal 2 vb c.length (rowT c)) (na : c.length ≤ 1073741824) :
    Calls Tryz.prog 22 #[va, vb] w fun e w' => e = .returned (.bool true) ∧ Below w.heap.size w w' := by
  have HA := Lib.hid ha
  have HB := Lib.hid hb
  clear ha hb
  obtain ⟨sa, ca, hva⟩ := row_slice HA.out
  obtain ⟨sb, cb, hvb⟩ := row_slice HB.out
  subst hva hvb
  have hnl : ((c.length : Int) == (c.length : Int)) = true := by simp
  go_enter Tryz.func22, Tryz.ntmps22
  go_wp2_with fail
  all_goals (try (exfalso; omega))
  go_loopw [5] (fun i wr => ∃ k : Nat, k ≤ c.length ∧ i = .int .i64 k ∧ Hid (Below w.heap.size w wr)) (fun i _ => c.length - (intOf i).toNat)
  case atStart => exact ⟨0, Nat.zero_le _, rfl, Below.refl _ _⟩
  case round =>
    obtain ⟨k, hk, rfl, hbr⟩ := hrel
    by_cases hlt : k < c.length
    · have q0 : (0 : Int) ≤ (k : Int) := by omega
      have q1 : (k : Int) < (c.length : Int) := by omega
      obtain ⟨ga, rfl⟩ : ∃ g, sa = some ⟨g, 0, none⟩ := by
        rcases HA.out.2 with ⟨_, h0⟩ | ⟨g, cap', cur, h, _⟩
        · omega
        · injection h with h _ _; exact ⟨g, h⟩
      obtain ⟨gb, rfl⟩ : ∃ g, sb = some ⟨g, 0, none⟩ := by
        rcases HB.out.2 with ⟨_, h0⟩ | ⟨g, cap', cur, h, _⟩
        · omega
        · injection h with h _ _; exact ⟨g, h⟩
      have la := (World.ownsRow.lt HA.out ga rfl).2
      have lb := (World.ownsRow.lt HB.out gb rfl).2
      have d1 : wr.cell? ⟨ga, k * 2, none⟩ = some (.string (bs c[k].1)) := (hbr.out.cell (p := ⟨ga, k * 2, none⟩) la).trans ((HA.out.cellAt (k * 2) (by omega)).trans (rowT_get c k hlt).1)
      have d2 : wr.cell? ⟨ga, k * 2 + 1, none⟩ = some (.int .i64 c[k].2) := (hbr.out.cell (p := ⟨ga, k * 2 + 1, none⟩) la).trans ((HA.out.cellAt (k * 2 + 1) (by omega)).trans (rowT_get c k hlt).2)
      have d3 : wr.cell? ⟨gb, k * 2, none⟩ = some (.string (bs c[k].1)) := (hbr.out.cell (p := ⟨gb, k * 2, none⟩) lb).trans ((HB.out.cellAt (k * 2) (by omega)).trans (rowT_get c k hlt).1)
      have d4 : wr.cell? ⟨gb, k * 2 + 1, none⟩ = some (.int .i64 c[k].2) := (hbr.out.cell (p := ⟨gb, k * 2 + 1, none⟩) lb).trans ((HB.out.cellAt (k * 2 + 1) (by omega)).trans (rowT_get c k hlt).2)
      obtain ⟨x, hx⟩ := name_it (bs c[k].1)
      obtain ⟨y, hy⟩ := name_it c[k].2
      rw [hx.out] at d1 d3
      rw [hy.out] at d2 d4
      clear hx hy la lb
      have hxx : (x.toList == x.toList) = true := by simp
      have hyy : (y == y) = true := by simp
      go_wp2_with fail
      go_quiet (fail)
      go_wp2_with fail
      go_roundw
      case rel => exact ⟨k + 1, by omega, by go_num, below_drewN hbr.out _⟩
      case measure => simp [intOf] <;> omega
    · obtain rfl : k = c.length := by omega
      go_wp2_with fail
      all_goals (try (exfalso; omega))
      go_ret
      exact ⟨rfl, hbr.out⟩
end Go.Proofs.YtfgaiopkclogmaaGreatDoor
