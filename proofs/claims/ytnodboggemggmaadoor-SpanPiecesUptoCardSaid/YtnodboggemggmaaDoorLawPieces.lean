/- SpanPieces: the law's comparison of pieces, and the walk of the law. -/
import Derived.Test.YtnodboggemggmaaDoorPcE
import Derived.Test.YtnodboggemggmaaDoorSpanH
namespace Go.Proofs.YtnodboggemggmaaDoor
open Go Go.RowKit
set_option maxHeartbeats 4000000

/-- a slice that reads as pieces -/
def PcSl (w : World) (v : Value) (l : List Pc) : Prop :=
  ∃ a cap, v = .slice a l.length cap ∧ ∀ j (hj : j < l.length), ∃ g off, a = some ⟨g, off, none⟩ ∧ g < w.heap.size ∧ w.cell? ⟨g, off + j * 5, none⟩ = some (.string (bs l[j].media)) ∧ w.cell? ⟨g, off + j * 5 + 1, none⟩ = some (.int .i64 l[j].a)
    ∧ w.cell? ⟨g, off + j * 5 + 2, none⟩ = some (.int .i64 l[j].b) ∧ w.cell? ⟨g, off + j * 5 + 3, none⟩ = some (.int .i64 l[j].size) ∧ w.cell? ⟨g, off + j * 5 + 4, none⟩ = some (.string (bs l[j].body))
theorem pcSl_keep {w w' : World} {v : Value} {l : List Pc} (h : PcSl w v l) (hb : Below w.heap.size w w') : PcSl w' v l := by
  obtain ⟨a, cap, rfl, hc⟩ := h
  refine ⟨a, cap, rfl, fun j hj => ?_⟩
  obtain ⟨g, off, ha, hg, h0, h1, h2, h3, h4⟩ := hc j hj
  exact ⟨g, off, ha, Nat.lt_of_lt_of_le hg hb.size, by rw [hb.cell (p := ⟨g, _, none⟩) hg]; exact h0, by rw [hb.cell (p := ⟨g, _, none⟩) hg]; exact h1, by rw [hb.cell (p := ⟨g, _, none⟩) hg]; exact h2,
    by rw [hb.cell (p := ⟨g, _, none⟩) hg]; exact h3, by rw [hb.cell (p := ⟨g, _, none⟩) hg]; exact h4⟩
theorem cellsP_get : ∀ (l : List Pc) (j : Nat) (hj : j < l.length), (cellsP l)[j * 5]? = some (.string (bs l[j].media)) ∧ (cellsP l)[j * 5 + 1]? = some (.int .i64 l[j].a) ∧ (cellsP l)[j * 5 + 2]? = some (.int .i64 l[j].b)
    ∧ (cellsP l)[j * 5 + 3]? = some (.int .i64 l[j].size) ∧ (cellsP l)[j * 5 + 4]? = some (.string (bs l[j].body))
  | p :: l, 0, _ => by simp [cellsP, encP]
  | p :: l, j + 1, hj => by
    have ih := cellsP_get l j (by simpa using hj)
    have e : cellsP (p :: l) = encP p ++ cellsP l := by simp [cellsP]
    have hl : (encP p).length = 5 := rfl
    rw [e]
    refine ⟨?_, ?_, ?_, ?_, ?_⟩
    · rw [List.getElem?_append_right (by rw [hl]; omega), hl, show (j + 1) * 5 - 5 = j * 5 by omega]; exact ih.1
    · rw [List.getElem?_append_right (by rw [hl]; omega), hl, show (j + 1) * 5 + 1 - 5 = j * 5 + 1 by omega]; exact ih.2.1
    · rw [List.getElem?_append_right (by rw [hl]; omega), hl, show (j + 1) * 5 + 2 - 5 = j * 5 + 2 by omega]; exact ih.2.2.1
    · rw [List.getElem?_append_right (by rw [hl]; omega), hl, show (j + 1) * 5 + 3 - 5 = j * 5 + 3 by omega]; exact ih.2.2.2.1
    · rw [List.getElem?_append_right (by rw [hl]; omega), hl, show (j + 1) * 5 + 4 - 5 = j * 5 + 4 by omega]; exact ih.2.2.2.2
theorem cellsP_len (l : List Pc) : (cellsP l).length = l.length * 5 := by
  induction l with
  | nil => rfl
  | cons p l ih =>
    have e : cellsP (p :: l) = encP p ++ cellsP l := by simp [cellsP]
    rw [e, List.length_append, ih, List.length_cons, show (encP p).length = 5 from rfl]; omega
theorem pcSl_of_row {w : World} {b e : Nat} {v : Value} {l : List Pc} (h : PcRow w b e v l) : PcSl w v l := by
  rcases h.2 with ⟨rfl, h0⟩ | ⟨g, cap, cur, rfl, hg, r⟩
  · exact ⟨none, 0, by rw [h0], fun j hj => by omega⟩
  · refine ⟨_, cap, rfl, fun j hj => ?_⟩
    have hc := cellsP_get l j hj
    have hl := cellsP_len l
    refine ⟨g, 0, rfl, (World.ownsRow.lt h g rfl).2, ?_, ?_, ?_, ?_, ?_⟩
    · rw [show 0 + j * 5 = j * 5 by omega, World.ownsRow.cellAt h (j * 5) (by omega)]; exact hc.1
    · rw [show 0 + j * 5 + 1 = j * 5 + 1 by omega, World.ownsRow.cellAt h (j * 5 + 1) (by omega)]; exact hc.2.1
    · rw [show 0 + j * 5 + 2 = j * 5 + 2 by omega, World.ownsRow.cellAt h (j * 5 + 2) (by omega)]; exact hc.2.2.1
    · rw [show 0 + j * 5 + 3 = j * 5 + 3 by omega, World.ownsRow.cellAt h (j * 5 + 3) (by omega)]; exact hc.2.2.2.1
    · rw [show 0 + j * 5 + 4 = j * 5 + 4 by omega, World.ownsRow.cellAt h (j * 5 + 4) (by omega)]; exact hc.2.2.2.2

theorem pcsM_le (E : List UInt8) (N : Nat) : ∀ (f at_ : Nat) (rest : List UInt8) (acc : List Pc), (pcsM E N f at_ rest acc).1.length ≤ acc.length + rest.length
  | 0, _, _, _ => Nat.zero_le _
  | f + 1, at_, rest, acc => by
    rw [pcsM]
    split
    · exact Nat.le_add_right _ _
    · split
      · exact Nat.zero_le _
      · split
        · rename_i hs
          split
          · exact Nat.zero_le _
          · rename_i p u _
            have ih := pcsM_le E N f (at_ + (E.length + 2) + u) (rest.drop (E.length + 2 + u)) (acc ++ [p])
            have h1 := congrArg List.length (show rest.take (E ++ [13, 10]).length = E ++ [13, 10] from by unfold startsB at hs; exact of_decide_eq_true hs)
            rw [List.length_take, List.length_append] at h1
            simp only [List.length_cons, List.length_nil] at h1
            rw [List.length_append, List.length_drop, List.length_singleton] at ih
            omega
        · split <;> exact Nat.zero_le _
theorem piecesM_le (mk body : List UInt8) : (piecesM mk body).1.length ≤ body.length := by
  unfold piecesM
  split
  · have := pcsM_le ([13, 10, 45, 45] ++ mk) body.length (body.length + 1) 0 body []
    simpa using this
  · exact Nat.zero_le _

set_option maxRecDepth 100000 in
theorem psame_any (va vb : Value) (l : List Pc) (w : World) (ha : PcSl w va l) (hb : PcSl w vb l) (na : l.length ≤ maxLen) :
    Calls Tryd.prog 35 #[va, vb] w fun e w' => e = .returned (.bool true) ∧ Below w.heap.size w w' := by
  obtain ⟨xa, ca, rfl, hca⟩ := ha
  obtain ⟨xb, cb, rfl, hcb⟩ := hb
  have HA := Lib.hid hca
  have HB := Lib.hid hcb
  clear hca hcb
  unfold maxLen at na
  go_enter Tryd.func35, Tryd.ntmps35
  go_wp2_with fail
  all_goals (try (exfalso; omega))
  go_loopw [5] (fun i wr => ∃ k : Nat, k ≤ l.length ∧ i = .int .i64 k ∧ Below w.heap.size w wr) (fun i _ => l.length - (intOf i).toNat)
  case atStart => exact ⟨0, Nat.zero_le _, rfl, Below.refl _ _⟩
  case round =>
    obtain ⟨k, hk, rfl, hbr⟩ := hrel
    by_cases hlt : k < l.length
    · obtain ⟨ga, oa, rfl, hga, a0, a1, a2, a3, a4⟩ := HA.out k hlt
      obtain ⟨gb, ob, rfl, hgb, b0, b1, b2, b3, b4⟩ := HB.out k hlt
      obtain ⟨m1, hm1⟩ := name_it (bs l[k].media)
      obtain ⟨m2, hm2⟩ := name_it (bs l[k].body)
      obtain ⟨p1, hp1⟩ := name_it l[k].a
      obtain ⟨p2, hp2⟩ := name_it l[k].b
      obtain ⟨p3, hp3⟩ := name_it l[k].size
      rw [hm1.out] at a0 b0
      rw [hp1.out] at a1 b1
      rw [hp2.out] at a2 b2
      rw [hp3.out] at a3 b3
      rw [hm2.out] at a4 b4
      rw [← hbr.cell (p := ⟨ga, _, none⟩) hga] at a0 a1 a2 a3 a4
      rw [← hbr.cell (p := ⟨gb, _, none⟩) hgb] at b0 b1 b2 b3 b4
      have e0 : (m1.toList == m1.toList) = true := beq_self_eq_true _
      have e1 : (p1 == p1) = true := beq_self_eq_true _
      have e2 : (p2 == p2) = true := beq_self_eq_true _
      have e3 : (p3 == p3) = true := beq_self_eq_true _
      have e4 : (m2.toList == m2.toList) = true := beq_self_eq_true _
      go_wp2_with fail
      go_quiet (fail)
      go_wp2_with fail
      go_roundw
      case rel => exact ⟨k + 1, by omega, by go_num, below_drewN hbr _⟩
      case measure => simp [intOf]; omega
    · obtain rfl : k = l.length := by omega
      go_wp2_with fail
      go_ret
      exact ⟨rfl, hbr⟩

set_option maxRecDepth 100000 in
theorem lawPieces_any (mk s : ByteArray) (w : World) (hE : EnvP w) (hs : s.size ≤ 1048576) (hmz : mk.size ≤ 1048576) :
    Calls Tryd.prog 10 #[.string mk, .string s] w fun e w' => e = .returned (.bool true) ∧ Below w.heap.size w w' := by
  have HE := Lib.hid hE; clear hE
  have hp := fun wx hx => pieces_any mk s wx hx hs hmz
  have hr := fun wx => rpieces_any mk s wx hs hmz
  have hn := piecesM_le (L mk) (L s)
  rw [L_length] at hn
  obtain ⟨R, hR⟩ := name_it (piecesM (L mk) (L s))
  rw [hR.out] at hp hr hn
  obtain ⟨l, a, z⟩ := R
  unfold pcPost at hp hr
  simp only [] at hp hr hn
  have HP := Lib.hid hp
  have HR := Lib.hid hr
  clear hp hr hR
  go_enter Tryd.func10, Tryd.ntmps10
  go_wp2_with fail
  refine (HP.out _ HE.out).mono ?_; rintro e w1 ⟨u1, rfl, r1, d1⟩
  obtain ⟨ua, uc, hu⟩ := pcRow_slice r1
  subst hu
  have P1 := Lib.hid (pcSl_of_row r1)
  clear r1
  go_wp2_with fail
  refine (HR.out _).mono ?_; rintro e w2 ⟨u2, rfl, r2, hb2⟩
  obtain ⟨va, vc, hv⟩ := pcRow_slice r2
  subst hv
  have Q2 := Lib.hid (pcSl_of_row r2)
  have P2 := Lib.hid (pcSl_keep P1.out hb2)
  have d2 := d1.trans (hb2.mono d1.size)
  have HE2 := Lib.hid (HE.out.next d2)
  clear r2 hb2 P1
  go_wp2_with fail
  refine (awake_any _ HE2.out.env).mono ?_; rintro e w3 ⟨rfl, hb3⟩
  have P3 := Lib.hid (pcSl_keep P2.out hb3)
  have Q3 := Lib.hid (pcSl_keep Q2.out hb3)
  have d3 := d2.trans (hb3.mono d2.size)
  clear hb3 P2 Q2
  go_wp2_with fail
  refine (psame_any _ _ l _ P3.out Q3.out (by unfold maxLen; omega)).mono ?_; rintro e w4 ⟨rfl, hb4⟩
  have d4 := d3.trans (hb4.mono d3.size)
  have e1 : (a == a) = true := beq_self_eq_true _
  have e2 : (z == z) = true := beq_self_eq_true _
  go_wp2_with fail
  go_ret
  exact ⟨rfl, d4⟩
end Go.Proofs.YtnodboggemggmaaDoor
