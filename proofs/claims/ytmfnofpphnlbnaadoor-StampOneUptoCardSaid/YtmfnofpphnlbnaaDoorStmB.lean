/- Reading and writing are inverse, in plain Lean: which texts the three forms read, piece by piece. No program in sight. -/
import Derived.Test.YtmfnofpphnlbnaaDoorStm
namespace Go.Proofs.YtmfnofpphnlbnaaDoor.Stm

def DigText : Nat → Bool → Int → List UInt8 → Int → Prop
  | 0, _, v, x, v' => x = [] ∧ v' = v
  | w + 1, b, v, x, v' => ∃ c y, x = c :: y ∧ ((b = true ∧ c = 32 ∧ DigText w false (10 * v) y v') ∨ (isDig c = true ∧ DigText w false (10 * v + ((c.toNat : Int) - 48)) y v'))
theorem digText_len : ∀ {w : Nat} {b : Bool} {v : Int} {x : List UInt8} {v' : Int}, DigText w b v x v' → x.length = w
  | 0, _, _, _, _, h => by rw [h.1]; rfl
  | w + 1, b, v, x, v', h => by
    obtain ⟨c, y, rfl, h⟩ := h
    rcases h with ⟨_, _, h⟩ | ⟨_, h⟩ <;> simp [digText_len h]
theorem isDig_ne (c : UInt8) (h : isDig c = true) : (c == 32) = false := by
  unfold isDig at h
  rw [decide_eq_true_eq] at h
  rw [beq_eq_false_iff_ne]
  intro e
  subst e
  exact absurd h.1 (by decide)
theorem digs_fwd (s : List UInt8) : ∀ {w : Nat} {b : Bool} {v : Int} {x : List UInt8} {v' : Int} {a : Nat} {rest : List UInt8}, DigText w b v x v' → s.drop a = x ++ rest → digs s w b a v = (a + w, v', true) ∧ s.drop (a + w) = rest
  | 0, b, v, x, v', a, rest, h, hd => by
    obtain ⟨rfl, rfl⟩ := h
    exact ⟨rfl, by simpa using hd⟩
  | w + 1, b, v, x, v', a, rest, h, hd => by
    obtain ⟨c, y, rfl, h⟩ := h
    have hc : s[a]? = some c := by
      have := congrArg (fun l : List UInt8 => l[0]?) hd
      simpa using this
    have hd' : s.drop (a + 1) = y ++ rest := by
      have := congrArg (List.drop 1) hd
      rw [List.drop_drop] at this
      simpa using this
    unfold digs
    rw [hc]
    rcases h with ⟨rfl, rfl, h⟩ | ⟨hg, h⟩
    · have := digs_fwd s h hd'
      rw [show a + 1 + w = a + (w + 1) by omega] at this
      exact ⟨by simpa using this.1, this.2⟩
    · have := digs_fwd s h hd'
      rw [show a + 1 + w = a + (w + 1) by omega] at this
      refine ⟨?_, this.2⟩
      simp only [isDig_ne c hg, Bool.and_false, hg]
      exact this.1
theorem digs_inv (s : List UInt8) : ∀ {w : Nat} {b : Bool} {v : Int} {a : Nat}, (digs s w b a v).2.2 = true → ∃ x, DigText w b v x (digs s w b a v).2.1 ∧ (digs s w b a v).1 = a + w ∧ s.drop a = x ++ s.drop (a + w)
  | 0, b, v, a, h => ⟨[], ⟨rfl, rfl⟩, rfl, rfl⟩
  | w + 1, b, v, a, h => by
    unfold digs at h ⊢
    cases hc : s[a]? with
    | none => rw [hc] at h; exact absurd h (by simp)
    | some c =>
      rw [hc] at h
      have hd : s.drop a = c :: s.drop (a + 1) := by
        obtain ⟨hlt, rfl⟩ := List.getElem?_eq_some_iff.1 hc
        exact List.drop_eq_getElem_cons hlt
      by_cases hb : (b && c == 32) = true
      · simp only [hb, if_true] at h ⊢
        obtain ⟨x, h1, h2, h3⟩ := digs_inv s h
        simp at hb
        exact ⟨c :: x, ⟨c, x, rfl, Or.inl ⟨hb.1, hb.2, h1⟩⟩, by rw [h2]; omega, by rw [hd, h3, show a + 1 + w = a + (w + 1) by omega]; rfl⟩
      · simp only [hb] at h ⊢
        by_cases hg : isDig c = true
        · simp only [hg] at h ⊢
          obtain ⟨x, h1, h2, h3⟩ := digs_inv s h
          exact ⟨c :: x, ⟨c, x, rfl, Or.inr ⟨hg, h1⟩⟩, by simp only [if_true, Bool.false_eq_true, if_false]; rw [h2]; omega, by rw [hd, h3, show a + 1 + w = a + (w + 1) by omega]; rfl⟩
        · simp [hg] at h

def PcText (p : Pc) (st st' : St) (x : List UInt8) : Prop :=
  match p with
  | .lit c => x = [c] ∧ st' = { st with at_ := st.at_ + 1 }
  | .name k => ∃ n w, (namesOf k)[n]? = some w ∧ x = w ∧ st' = setName k n { st with at_ := st.at_ + w.length }
  | .dig w b f => ∃ v, DigText w b 0 x v ∧ st' = setDig f v st.at_ { st with at_ := st.at_ + w }

theorem at_setName (k n : Nat) (st : St) : (setName k n st).at_ = st.at_ := by unfold setName; split <;> rfl
theorem at_setDig (f : Nat) (v : Int) (p : Nat) (st : St) : (setDig f v p st).at_ = st.at_ := by
  unfold setDig; split <;> (try rfl); split <;> (try rfl); split <;> (try rfl); split <;> rfl
theorem pcText_at {p : Pc} {st st' : St} {x : List UInt8} (h : PcText p st st' x) : st'.at_ = st.at_ + x.length := by
  cases p with
  | lit c => obtain ⟨rfl, rfl⟩ := h; rfl
  | name k => obtain ⟨n, w, _, rfl, rfl⟩ := h; rw [at_setName]
  | dig w b f => obtain ⟨v, h, rfl⟩ := h; rw [at_setDig, digText_len h]

theorem firstOf_some (t : List UInt8) : ∀ (l : List (List UInt8)) (n m : Nat) (w : List UInt8), firstOf t l n = some (m, w) → ∃ i, m = n + i ∧ l[i]? = some w ∧ w.isPrefixOf t = true
  | [], n, m, w, h => by simp [firstOf] at h
  | a :: l, n, m, w, h => by
    unfold firstOf at h
    by_cases hp : a.isPrefixOf t = true
    · rw [if_pos hp] at h
      simp at h
      obtain ⟨rfl, rfl⟩ := h
      exact ⟨0, rfl, rfl, hp⟩
    · rw [if_neg hp] at h
      obtain ⟨i, rfl, h1, h2⟩ := firstOf_some t l (n + 1) m w h
      exact ⟨i + 1, by omega, h1, h2⟩
/-- no name is another one's beginning -/
theorem firstOf_names (k n : Nat) (w rest : List UInt8) (h : (namesOf k)[n]? = some w) : firstOf (w ++ rest) (namesOf k) 0 = some (n, w) := by
  have key : ∀ (l : List (List UInt8)), (∀ (i j : Fin l.length), i ≠ j → ∃ p : Fin 3, (l[i][p.val]?).isSome = true ∧ (l[j][p.val]?).isSome = true ∧ l[i][p.val]? ≠ l[j][p.val]?) → ∀ (n : Nat) (w : List UInt8) (m : Nat), l[n]? = some w → firstOf (w ++ rest) l m = some (m + n, w) := by
    intro l
    induction l with
    | nil => intro _ n w m h; simp at h
    | cons a l ih =>
      intro hl n w m h
      cases n with
      | zero =>
        simp at h; subst h
        unfold firstOf
        rw [if_pos (by simp [List.isPrefixOf_iff_prefix])]
        rfl
      | succ n =>
        simp at h
        have hlt : n < l.length := (List.getElem?_eq_some_iff.1 h).1
        have hw : l[n] = w := (List.getElem?_eq_some_iff.1 h).2
        obtain ⟨p, h1, h2, h3⟩ := hl ⟨0, by simp⟩ ⟨n + 1, by simpa using hlt⟩ (by intro e; exact absurd (congrArg Fin.val e) (by simp))
        obtain ⟨x, h1⟩ := Option.isSome_iff_exists.1 h1
        obtain ⟨y, h2⟩ := Option.isSome_iff_exists.1 h2
        rw [h1, h2] at h3
        simp at h1 h2
        rw [hw] at h2
        unfold firstOf
        rw [if_neg]
        · have := ih (fun i j hij => by
            obtain ⟨p, h1, h2, h3⟩ := hl i.succ j.succ (fun e => hij (Fin.succ_inj.1 e))
            exact ⟨p, by simpa using h1, by simpa using h2, by simpa using h3⟩) n w (m + 1) h
          rw [this, show m + 1 + n = m + (n + 1) by omega]
        · intro hp
          rw [List.isPrefixOf_iff_prefix] at hp
          obtain ⟨z, hz⟩ := hp
          have e1 : (a ++ z)[p.val]? = some x := by rw [List.getElem?_append_left (List.getElem?_eq_some_iff.1 h1).1]; exact h1
          have e2 : (w ++ rest)[p.val]? = some y := by rw [List.getElem?_append_left (List.getElem?_eq_some_iff.1 h2).1]; exact h2
          rw [hz, e2] at e1
          exact h3 e1.symm
  have hk : namesOf k = shortN ∨ namesOf k = longN ∨ namesOf k = monN := by
    unfold namesOf
    by_cases h0 : k = 0
    · rw [if_pos h0]; exact Or.inl rfl
    · by_cases h1 : k = 1
      · rw [if_neg h0, if_pos h1]; exact Or.inr (Or.inl rfl)
      · rw [if_neg h0, if_neg h1]; exact Or.inr (Or.inr rfl)
  have := key (namesOf k) (by rcases hk with e | e | e <;> rw [e] <;> decide +kernel) n w 0 h
  rw [this, Nat.zero_add]

theorem step_fwd (s : List UInt8) {p : Pc} {st st' : St} {x rest : List UInt8} (h : PcText p st st' x) (hd : s.drop st.at_ = x ++ rest) : stepP s p st = (st', true) ∧ s.drop st'.at_ = rest := by
  have ha := pcText_at h
  have hr : s.drop st'.at_ = rest := by
    rw [ha, ← List.drop_drop, hd]; simp
  refine ⟨?_, hr⟩
  cases p with
  | lit c =>
    obtain ⟨rfl, rfl⟩ := h
    have hc : s[st.at_]? = some c := by
      have := congrArg (fun l : List UInt8 => l[0]?) hd
      simpa using this
    simp [stepP, hc]
  | name k =>
    obtain ⟨n, w, hn, rfl, rfl⟩ := h
    unfold stepP
    simp only [hd, firstOf_names k n x rest hn]
  | dig w b f =>
    obtain ⟨v, h, rfl⟩ := h
    unfold stepP
    have := (digs_fwd s h hd).1
    simp only [this, if_true]
theorem step_inv (s : List UInt8) {p : Pc} {st : St} (h : (stepP s p st).2 = true) : ∃ x, PcText p st (stepP s p st).1 x ∧ s.drop st.at_ = x ++ s.drop (stepP s p st).1.at_ := by
  cases p with
  | lit c =>
    unfold stepP at h ⊢
    by_cases hc : s[st.at_]? = some c
    · simp only [hc, if_true]
      refine ⟨[c], ⟨rfl, rfl⟩, ?_⟩
      obtain ⟨hlt, rfl⟩ := List.getElem?_eq_some_iff.1 hc
      exact List.drop_eq_getElem_cons hlt
    · simp [hc] at h
  | name k =>
    unfold stepP at h ⊢
    cases hf : firstOf (s.drop st.at_) (namesOf k) 0 with
    | none => simp [hf] at h
    | some r =>
      obtain ⟨n, w⟩ := r
      obtain ⟨i, hi, h1, h2⟩ := firstOf_some _ _ _ _ _ hf
      rw [Nat.zero_add] at hi
      subst hi
      simp only [hf] at h ⊢
      refine ⟨w, ⟨n, w, h1, rfl, rfl⟩, ?_⟩
      rw [at_setName]
      rw [List.isPrefixOf_iff_prefix] at h2
      obtain ⟨z, hz⟩ := h2
      show s.drop st.at_ = w ++ s.drop (st.at_ + w.length)
      rw [← List.drop_drop, ← hz]; simp
  | dig w b f =>
    unfold stepP at h ⊢
    by_cases hr : (digs s w b st.at_ 0).2.2 = true
    · obtain ⟨x, h1, h2, h3⟩ := digs_inv s hr
      simp only [hr, if_true]
      refine ⟨x, ⟨_, h1, by rw [h2]⟩, ?_⟩
      rw [at_setDig, h2]; exact h3
    · simp [hr] at h

def RunText : List Pc → St → St → List UInt8 → Prop
  | [], st, st', x => st' = st ∧ x = []
  | p :: ps, st, st', x => ∃ st1 x1 x2, PcText p st st1 x1 ∧ RunText ps st1 st' x2 ∧ x = x1 ++ x2
theorem run_fwd (s : List UInt8) : ∀ {ps : List Pc} {st st' : St} {x rest : List UInt8}, RunText ps st st' x → s.drop st.at_ = x ++ rest → runP s ps st = (st', true) ∧ s.drop st'.at_ = rest
  | [], st, st', x, rest, h, hd => by obtain ⟨rfl, rfl⟩ := h; exact ⟨rfl, hd⟩
  | p :: ps, st, st', x, rest, h, hd => by
    obtain ⟨st1, x1, x2, h1, h2, rfl⟩ := h
    rw [List.append_assoc] at hd
    have a := step_fwd s h1 hd
    have b := run_fwd s h2 a.2
    rw [runP_cons, a.1]
    exact b
theorem run_inv (s : List UInt8) : ∀ {ps : List Pc} {st : St}, (runP s ps st).2 = true → ∃ x, RunText ps st (runP s ps st).1 x ∧ s.drop st.at_ = x ++ s.drop (runP s ps st).1.at_
  | [], st, h => ⟨[], ⟨rfl, rfl⟩, rfl⟩
  | p :: ps, st, h => by
    rw [runP_cons] at h ⊢
    by_cases hs : (stepP s p st).2 = true
    · rw [if_pos hs] at h ⊢
      obtain ⟨x1, a1, a2⟩ := step_inv s hs
      obtain ⟨x2, b1, b2⟩ := run_inv s h
      exact ⟨x1 ++ x2, ⟨_, x1, x2, a1, b1, rfl⟩, by rw [a2, b2, List.append_assoc]⟩
    · rw [if_neg hs] at h; exact absurd h hs
theorem run_text {s : List UInt8} {ps : List Pc} {st' : St} (h : RunText ps st0 st' s) : runP s ps st0 = (st', true) ∧ st'.at_ = s.length := by
  have := run_fwd s (rest := []) h (by simp [st0])
  refine ⟨this.1, ?_⟩
  have g : ∀ (ps : List Pc) (st st' : St) (x : List UInt8), RunText ps st st' x → st'.at_ = st.at_ + x.length := by
    intro ps
    induction ps with
    | nil => intro st st' x h; obtain ⟨rfl, rfl⟩ := h; rfl
    | cons p ps ih =>
      intro st st' x h
      obtain ⟨st1, x1, x2, h1, h2, rfl⟩ := h
      rw [ih _ _ _ h2, pcText_at h1, List.length_append, Nat.add_assoc]
  have := g _ _ _ _ h
  simpa [st0] using this
theorem text_of_run {s : List UInt8} {ps : List Pc} (h : (runP s ps st0).2 = true) (hl : s.length ≤ (runP s ps st0).1.at_) : RunText ps st0 (runP s ps st0).1 s := by
  obtain ⟨x, h1, h2⟩ := run_inv s h
  rw [List.drop_of_length_le hl, List.append_nil] at h2
  have : s = x := by simpa [st0] using h2
  rw [← this] at h1; exact h1

/-! digits of two and of four -/
def d2 (n : Int) : List UInt8 := [UInt8.ofNat (48 + (n / 10).toNat), UInt8.ofNat (48 + (n % 10).toNat)]
def d4 (n : Int) : List UInt8 := d2 (n / 100) ++ d2 (n % 100)
theorem isDig_ofNat (n : Nat) (h : n ≤ 9) : isDig (UInt8.ofNat (48 + n)) = true ∧ ((UInt8.ofNat (48 + n)).toNat : Int) - 48 = n := by
  have : n = 0 ∨ n = 1 ∨ n = 2 ∨ n = 3 ∨ n = 4 ∨ n = 5 ∨ n = 6 ∨ n = 7 ∨ n = 8 ∨ n = 9 := by omega
  rcases this with rfl | rfl | rfl | rfl | rfl | rfl | rfl | rfl | rfl | rfl <;> decide
theorem ofNat_isDig (c : UInt8) (h : isDig c = true) : ∃ n : Nat, n ≤ 9 ∧ c = UInt8.ofNat (48 + n) := by
  unfold isDig at h
  rw [decide_eq_true_eq] at h
  refine ⟨c.toNat - 48, by omega, ?_⟩
  rw [show 48 + (c.toNat - 48) = c.toNat by omega]
  simp
theorem digText1 {b : Bool} {v v' : Int} {x : List UInt8} (hb : b = false) : DigText 1 b v x v' ↔ ∃ n : Nat, n ≤ 9 ∧ x = [UInt8.ofNat (48 + n)] ∧ v' = 10 * v + n := by
  subst hb
  constructor
  · rintro ⟨c, y, rfl, ⟨h, _⟩ | ⟨h, rfl, rfl⟩⟩
    · exact absurd h (by simp)
    · obtain ⟨n, hn, rfl⟩ := ofNat_isDig c h
      exact ⟨n, hn, rfl, by rw [(isDig_ofNat n hn).2]⟩
  · rintro ⟨n, hn, rfl, rfl⟩
    exact ⟨_, _, rfl, Or.inr ⟨(isDig_ofNat n hn).1, rfl, by rw [(isDig_ofNat n hn).2]⟩⟩
theorem digText_succ {w : Nat} {v v' : Int} {x : List UInt8} : DigText (w + 1) false v x v' ↔ ∃ (n : Nat) (y : List UInt8), n ≤ 9 ∧ x = UInt8.ofNat (48 + n) :: y ∧ DigText w false (10 * v + n) y v' := by
  constructor
  · rintro ⟨c, y, rfl, ⟨h, _⟩ | ⟨h, h2⟩⟩
    · exact absurd h (by simp)
    · obtain ⟨n, hn, rfl⟩ := ofNat_isDig c h
      rw [(isDig_ofNat n hn).2] at h2
      exact ⟨n, y, hn, rfl, h2⟩
  · rintro ⟨n, y, hn, rfl, h⟩
    exact ⟨_, _, rfl, Or.inr ⟨(isDig_ofNat n hn).1, by rw [(isDig_ofNat n hn).2]; exact h⟩⟩
theorem digText2 {v : Int} {x : List UInt8} : DigText 2 false 0 x v ↔ 0 ≤ v ∧ v ≤ 99 ∧ x = d2 v := by
  rw [digText_succ]
  constructor
  · rintro ⟨n, y, hn, rfl, h⟩
    rw [digText1 rfl] at h
    obtain ⟨m, hm, rfl, rfl⟩ := h
    refine ⟨by omega, by omega, ?_⟩
    unfold d2
    rw [show ((10 * (10 * 0 + (n : Int)) + (m : Int)) / 10).toNat = n by omega, show ((10 * (10 * 0 + (n : Int)) + (m : Int)) % 10).toNat = m by omega]
  · rintro ⟨h0, h1, rfl⟩
    refine ⟨(v / 10).toNat, _, by omega, rfl, ?_⟩
    rw [digText1 rfl]
    exact ⟨(v % 10).toNat, by omega, rfl, by omega⟩
theorem digText2b {v : Int} {x : List UInt8} : DigText 2 true 0 x v ↔ 0 ≤ v ∧ v ≤ 99 ∧ (x = d2 v ∨ (v ≤ 9 ∧ x = [32, UInt8.ofNat (48 + v.toNat)])) := by
  constructor
  · rintro ⟨c, y, rfl, ⟨_, rfl, h⟩ | ⟨h, h2⟩⟩
    · rw [digText1 rfl] at h
      obtain ⟨m, hm, rfl, rfl⟩ := h
      exact ⟨by omega, by omega, Or.inr ⟨by omega, by rw [show (10 * (10 * 0) + (m : Int)).toNat = m by omega]⟩⟩
    · have : DigText 2 false 0 (c :: y) v := ⟨c, y, rfl, Or.inr ⟨h, h2⟩⟩
      obtain ⟨a, b, e⟩ := digText2.1 this
      exact ⟨a, b, Or.inl e⟩
  · rintro ⟨h0, h1, rfl | ⟨h2, rfl⟩⟩
    · obtain ⟨c, y, e, h⟩ := digText2.2 ⟨h0, h1, rfl⟩
      refine ⟨c, y, e, ?_⟩
      rcases h with ⟨h, _⟩ | h
      · exact absurd h (by simp)
      · exact Or.inr h
    · refine ⟨32, _, rfl, Or.inl ⟨rfl, rfl, ?_⟩⟩
      rw [digText1 rfl]
      exact ⟨v.toNat, by omega, rfl, by omega⟩
theorem digText4 {v : Int} {x : List UInt8} : DigText 4 false 0 x v ↔ 0 ≤ v ∧ v ≤ 9999 ∧ x = d4 v := by
  rw [digText_succ]
  constructor
  · rintro ⟨n, y, hn, rfl, h⟩
    rw [digText_succ] at h
    obtain ⟨m, y, hm, rfl, h⟩ := h
    rw [digText_succ] at h
    obtain ⟨p, y, hp, rfl, h⟩ := h
    rw [digText1 rfl] at h
    obtain ⟨q, hq, rfl, rfl⟩ := h
    refine ⟨by omega, by omega, ?_⟩
    unfold d4 d2
    obtain ⟨z, hz⟩ : ∃ z : Int, z = 10 * (10 * (10 * (10 * 0 + (n : Int)) + (m : Int)) + (p : Int)) + (q : Int) := ⟨_, rfl⟩
    rw [← hz, show (z / 100 / 10).toNat = n by omega, show (z / 100 % 10).toNat = m by omega, show (z % 100 / 10).toNat = p by omega, show (z % 100 % 10).toNat = q by omega]
    rfl
  · rintro ⟨h0, h1, rfl⟩
    refine ⟨(v / 100 / 10).toNat, _, by omega, rfl, ?_⟩
    rw [digText_succ]
    refine ⟨(v / 100 % 10).toNat, _, by omega, rfl, ?_⟩
    rw [digText_succ]
    refine ⟨(v % 100 / 10).toNat, _, by omega, rfl, ?_⟩
    rw [digText1 rfl]
    exact ⟨(v % 100 % 10).toNat, by omega, rfl, by omega⟩
end Go.Proofs.YtmfnofpphnlbnaaDoor.Stm
