/- LedgerOnce: the walk of the law: for every text of at most 1048576 bytes the law answers true. -/
import Derived.Test.YtfgaiopkclogmaaGreatDoorLedgLaJ
import Derived.Test.YtfgaiopkclogmaaGreatDoorMb
namespace Go.Proofs.YtfgaiopkclogmaaGreatDoor
open Go Go.RowKit
set_option maxHeartbeats 4000000

theorem parse_ints (S : List UInt8) (h : (parseEnd S).2 = false) : intsE (parsedE S) := by
  obtain ⟨hN, _, o1, o2⟩ := numS_step (st := pN S) h
  obtain ⟨hM, _⟩ := litS_step (st := (pM S).2) hN
  obtain ⟨hL, _, m1, m2⟩ := stS_step (st := pL S) hM
  obtain ⟨hK, _⟩ := litS_step (st := (pK S).2) hL
  obtain ⟨hJ, _, _, _, _⟩ := tgtS_step (st := pJ S) hK
  obtain ⟨hI, _⟩ := litS_step (st := pI S) hJ
  obtain ⟨hH, _⟩ := runS_step (st := pH S) hI
  obtain ⟨hG, _⟩ := litS_step (st := (pG S).2) hH
  obtain ⟨hF, _, g1, g2⟩ := numS_step (st := pF S) hG
  obtain ⟨hE, _⟩ := litS_step (st := (pE S).2) hF
  obtain ⟨hD, _, e1, e2⟩ := numS_step (st := pD S) hE
  obtain ⟨hC, _⟩ := litS_step (st := (pC S).2) hD
  obtain ⟨hB, _, c1, c2⟩ := numS_step (st := pB S) hC
  unfold mostI at o2 g2 e2 c2
  have c1' : 0 ≤ (parsedE S).conn := c1
  have c2' : (parsedE S).conn ≤ 9223372036854775807 := c2
  have e1' : 0 ≤ (parsedE S).numb := e1
  have e2' : (parsedE S).numb ≤ 9223372036854775807 := e2
  have g1' : 0 ≤ (parsedE S).tick := g1
  have g2' : (parsedE S).tick ≤ 9223372036854775807 := g2
  have m1' : 100 ≤ (parsedE S).stat := m1
  have m2' : (parsedE S).stat ≤ 599 := m2
  have o1' : 0 ≤ (parsedE S).byts := o1
  have o2' : (parsedE S).byts ≤ 9223372036854775807 := o2
  exact ⟨⟨by omega, c2'⟩, ⟨by omega, e2'⟩, ⟨by omega, g2'⟩, ⟨by omega, by omega⟩, ⟨by omega, o2'⟩⟩
theorem parV_no {S : List UInt8} (h : parsesB S = false) : parV S = .tuple #[noS, .int .i64 ((parseEnd S).1 : Nat), .int .i64 280] := by
  unfold parV; rw [h]; rfl
theorem parV_yes {S : List UInt8} (h : parsesB S = true) : parV S = .tuple #[encE (parsedE S), .int .i64 0, .int .i64 0] := by
  unfold parV; rw [if_pos h]
theorem parses_facts {S : List UInt8} (h : parsesB S = true) : (parseEnd S).2 = false ∧ (parseEnd S).1 = S.length := by
  unfold parsesB at h
  rw [Bool.and_eq_true, decide_eq_true_eq] at h
  exact ⟨by simpa using h.1, h.2⟩

end Go.Proofs.YtfgaiopkclogmaaGreatDoor
