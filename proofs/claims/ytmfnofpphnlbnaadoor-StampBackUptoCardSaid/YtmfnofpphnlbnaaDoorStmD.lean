/- What holds of a text that one of the forms reads whole: the ranges of its numbers and where its time stands. No program in sight. -/
import Derived.Test.YtmfnofpphnlbnaaDoorStmC
namespace Go.Proofs.YtmfnofpphnlbnaaDoor.Stm

theorem formFrom_lt (t : List UInt8) : ∀ l : List (List UInt8), formFrom t l < 3
  | [] => by unfold formFrom; decide
  | w :: ws => by
    unfold formFrom
    split
    · decide
    · split
      · decide
      · exact formFrom_lt t ws
theorem formOf_lt (t : List UInt8) : formOf t < 3 := formFrom_lt t _

structure Range (form : Nat) (st : St) : Prop where
  wd0 : 0 ≤ st.wd
  wd1 : st.wd ≤ 6
  mo0 : 1 ≤ st.mo
  mo1 : st.mo ≤ 12
  dy0 : 0 ≤ st.dy
  dy1 : st.dy ≤ 99
  yr0 : 0 ≤ st.yr
  yr1 : st.yr ≤ 9999
  yrL : form = 1 → st.yr ≤ 99
  hh0 : 0 ≤ st.hh
  hh1 : st.hh ≤ 99
  mi0 : 0 ≤ st.mi
  mi1 : st.mi ≤ 99
  ss0 : 0 ≤ st.ss
  ss1 : st.ss ≤ 99
  miA : st.miAt = st.hhAt + 3
  ssA : st.ssAt = st.hhAt + 6
  hhA : st.hhAt ≤ st.at_

theorem runText_append : ∀ {a b : List Pc} {st st' : St} {x : List UInt8}, RunText (a ++ b) st st' x → ∃ st1 x1 x2, RunText a st st1 x1 ∧ RunText b st1 st' x2 ∧ x = x1 ++ x2
  | [], b, st, st', x, h => ⟨st, [], x, ⟨rfl, rfl⟩, h, rfl⟩
  | p :: a, b, st, st', x, h => by
    obtain ⟨st1, x1, x2, h1, h2, rfl⟩ := h
    obtain ⟨st2, y1, y2, g1, g2, rfl⟩ := runText_append h2
    exact ⟨st2, x1 ++ y1, y2, ⟨st1, x1, y1, h1, g1, rfl⟩, g2, by rw [List.append_assoc]⟩
theorem runText_at : ∀ {ps : List Pc} {st st' : St} {x : List UInt8}, RunText ps st st' x → st'.at_ = st.at_ + x.length
  | [], st, st', x, h => by obtain ⟨rfl, rfl⟩ := h; rfl
  | p :: ps, st, st', x, h => by
    obtain ⟨st1, x1, x2, h1, h2, rfl⟩ := h
    rw [runText_at h2, pcText_at h1, List.length_append, Nat.add_assoc]
def calm : Pc → Bool
  | .lit _ => true
  | .name _ => true
  | .dig _ _ f => decide (f < 2)
theorem calm_keep : ∀ {ps : List Pc} {st st' : St} {x : List UInt8}, ps.all calm = true → RunText ps st st' x → st'.hhAt = st.hhAt ∧ st'.miAt = st.miAt ∧ st'.ssAt = st.ssAt
  | [], st, st', x, hc, h => by obtain ⟨rfl, rfl⟩ := h; exact ⟨rfl, rfl, rfl⟩
  | p :: ps, st, st', x, hc, h => by
    obtain ⟨st1, x1, x2, h1, h2, rfl⟩ := h
    rw [List.all_cons, Bool.and_eq_true] at hc
    obtain ⟨a, b, c⟩ := calm_keep hc.2 h2
    have : st1.hhAt = st.hhAt ∧ st1.miAt = st.miAt ∧ st1.ssAt = st.ssAt := by
      cases p with
      | lit c => obtain ⟨_, rfl⟩ := h1; exact ⟨rfl, rfl, rfl⟩
      | name k => obtain ⟨n, w, _, _, rfl⟩ := h1; unfold setName; split <;> exact ⟨rfl, rfl, rfl⟩
      | dig w b f =>
        obtain ⟨v, _, rfl⟩ := h1
        have hf : f < 2 := of_decide_eq_true hc.1
        have : f = 0 ∨ f = 1 := by omega
        rcases this with rfl | rfl <;> exact ⟨rfl, rfl, rfl⟩
    rw [a, b, c]; exact this
theorem clock_at {st st' : St} {x : List UInt8} (h : RunText clockP st st' x) : st'.hhAt = st.at_ ∧ st'.miAt = st.at_ + 3 ∧ st'.ssAt = st.at_ + 6 := by
  obtain ⟨_, _, _, ⟨v1, d1, rfl⟩, ⟨_, _, _, ⟨_, rfl⟩, ⟨_, _, _, ⟨v2, d2, rfl⟩, ⟨_, _, _, ⟨_, rfl⟩, ⟨_, _, _, ⟨v3, d3, rfl⟩, ⟨rfl, _⟩, _⟩, _⟩, _⟩, _⟩, _⟩ := h
  exact ⟨rfl, rfl, rfl⟩
theorem place_of {form : Nat} (hf : form < 3) {st : St} {x : List UInt8} (h : RunText (pcs form) st0 st x) : st.miAt = st.hhAt + 3 ∧ st.ssAt = st.hhAt + 6 ∧ st.hhAt ≤ st.at_ := by
  have hsplit : ∃ a b, pcs form = a ++ (clockP ++ b) ∧ b.all calm = true := by
    have : form = 0 ∨ form = 1 ∨ form = 2 := by omega
    rcases this with rfl | rfl | rfl
    · exact ⟨[.name 0, .lit 44, .lit 32, .dig 2 false 0, .lit 32, .name 2, .lit 32, .dig 4 false 1, .lit 32], [.lit 32, .lit 71, .lit 77, .lit 84], rfl, rfl⟩
    · exact ⟨[.name 1, .lit 44, .lit 32, .dig 2 false 0, .lit 45, .name 2, .lit 45, .dig 2 false 1, .lit 32], [.lit 32, .lit 71, .lit 77, .lit 84], rfl, rfl⟩
    · exact ⟨[.name 0, .lit 32, .name 2, .lit 32, .dig 2 true 0, .lit 32], [.lit 32, .dig 4 false 1], rfl, rfl⟩
  obtain ⟨a, b, e, hb⟩ := hsplit
  rw [e] at h
  obtain ⟨st1, x1, x2, h1, h2, rfl⟩ := runText_append h
  obtain ⟨st2, y1, y2, g1, g2, rfl⟩ := runText_append h2
  obtain ⟨c1, c2, c3⟩ := clock_at g1
  obtain ⟨k1, k2, k3⟩ := calm_keep hb g2
  have t1 := runText_at g1
  have t2 := runText_at g2
  rw [k1, k2, k3, c1, c2, c3]
  exact ⟨rfl, rfl, by omega⟩
theorem range_of {s : List UInt8} {form : Nat} (hf : form < 3) (h : (runP s (pcs form) st0).2 = true) (hl : s.length ≤ (runP s (pcs form) st0).1.at_) : Range form (runP s (pcs form) st0).1 := by
  have ht := text_of_run h hl
  obtain ⟨p1, p2, p3⟩ := place_of hf ht
  have hc := runC_of ht
  obtain ⟨wd, mo, dt, F, _, _⟩ := txt_inv hf hc
  obtain ⟨h1, h2, h3, h4, h5, h6, h7, h8, h9, h10, h11, h12, h13, h14⟩ := F
  change (runP s (pcs form) st0).1.wd = _ at h1
  change (runP s (pcs form) st0).1.mo = _ at h2
  change 0 ≤ (runP s (pcs form) st0).1.dy at h5
  change (runP s (pcs form) st0).1.dy ≤ 99 at h6
  change 0 ≤ (runP s (pcs form) st0).1.yr at h7
  change (runP s (pcs form) st0).1.yr ≤ _ at h8
  change 0 ≤ (runP s (pcs form) st0).1.hh at h9
  change (runP s (pcs form) st0).1.hh ≤ 99 at h10
  change 0 ≤ (runP s (pcs form) st0).1.mi at h11
  change (runP s (pcs form) st0).1.mi ≤ 99 at h12
  change 0 ≤ (runP s (pcs form) st0).1.ss at h13
  change (runP s (pcs form) st0).1.ss ≤ 99 at h14
  have h8' : (runP s (pcs form) st0).1.yr ≤ 9999 := by unfold yTop at h8; split at h8 <;> omega
  exact ⟨by omega, by omega, by omega, by omega, h5, h6, h7, h8', fun e => by unfold yTop at h8; rw [if_pos e] at h8; exact h8, h9, h10, h11, h12, h13, h14, p1, p2, p3⟩
theorem nearY_bd (c lo : Int) : lo ≤ nearY c lo ∧ nearY c lo ≤ lo + 99 ∧ nearY c lo % 100 = c % 100 := by
  unfold nearY; omega
end Go.Proofs.YtmfnofpphnlbnaaDoor.Stm
