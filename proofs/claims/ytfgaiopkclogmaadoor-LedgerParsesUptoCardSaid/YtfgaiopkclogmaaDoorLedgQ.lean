/- The lines of a ledger in plain Lean: what was read is what stands there. -/
import Derived.Test.YtfgaiopkclogmaaDoorLedgP
import Derived.Test.YtfgaiopkclogmaaDoorNum
namespace Go.Proofs.YtfgaiopkclogmaaDoor
open Go Go.RowKit

theorem nf : ¬ (false = true) := by decide
theorem litS_ok (S : List UInt8) : ∀ (t : List UInt8) (n m : Nat), litS S t (n, false) = (m, false) → S.drop n = t ++ S.drop m ∧ m = n + t.length
  | [], n, m, h => by
    injection h with h _
    subst h
    exact ⟨rfl, rfl⟩
  | c :: t, n, m, h => by
    rw [litS, if_neg nf] at h
    split at h
    · rename_i hc
      obtain ⟨e1, e2⟩ := litS_ok S t (n + 1) m h
      obtain ⟨hlt, hv⟩ := List.getElem?_eq_some_iff.1 hc
      refine ⟨?_, by rw [List.length_cons]; omega⟩
      have hv2 : S[n]'hlt = c := hv
      rw [List.drop_eq_getElem_cons hlt, hv2, e1, List.cons_append]
    · injection h with _ h; cases h
theorem runK_all (may : UInt8 → Bool) : ∀ (m : Nat) (l : List UInt8), (l.take (runK may m l)).all may = true
  | 0, _ => by rw [runK, List.take_zero]; rfl
  | _ + 1, [] => rfl
  | m + 1, c :: r => by
    rw [runK]
    split
    · rename_i hc
      rw [List.take_succ_cons, List.all_cons, hc, runK_all may m r]; rfl
    · rw [List.take_zero]; rfl
theorem runS_ok (S : List UInt8) (may : UInt8 → Bool) (mx n m : Nat) (h : runS S may mx (n, false) = (m, false)) : ∃ x, S.drop n = x ++ S.drop m ∧ x.all may = true ∧ 1 ≤ x.length ∧ x.length ≤ mx ∧ m = n + x.length := by
  unfold runS at h
  rw [if_neg nf] at h
  injection h with hm hb
  have hk : runK may mx (S.drop n) ≠ 0 := of_decide_eq_false hb
  have hl := runK_le may mx (S.drop n)
  have ha := runK_all may mx (S.drop n)
  have hm : n + runK may mx (S.drop n) = m := hm
  obtain ⟨k, hkk⟩ : ∃ k, runK may mx (S.drop n) = k := ⟨_, rfl⟩
  rw [hkk] at hk hl ha hm
  have hlen : ((S.drop n).take k).length = k := by rw [List.length_take]; omega
  refine ⟨(S.drop n).take k, ?_, ha, by omega, by omega, by omega⟩
  rw [← hm, ← List.drop_drop, List.take_append_drop]
theorem val_pos {d : List UInt8} {c : UInt8} (ha : d.all isDig = true) (hh : d.head? = some c) (hc : c ≠ 48) : 0 < valOf d := by
  have h1 := valOf_take d ha 1
  cases d with
  | nil => cases hh
  | cons x r =>
    rw [List.head?_cons] at hh
    injection hh with hh
    subst hh
    rw [List.all_cons, Bool.and_eq_true] at ha
    have hb := dg_bd ha.1
    have e : valOf ((x :: r).take 1) = dg x := by show 10 * 0 + dg x = dg x; omega
    rw [e] at h1
    have hx : dg x ≠ 0 := by
      intro h0
      apply hc
      unfold dg at h0
      apply UInt8.toNat_inj.1
      show x.toNat = 48
      omega
    omega
theorem digC_of {c : UInt8} {u : Nat} (_ : isDig c = true) (hu : ((u % 10 : Nat) : Int) = dg c) : digC u = c := by
  apply UInt8.toNat_inj.1
  have h1 := digC_toNat u
  unfold dg at hu
  omega
/-- digits without a 0 ahead are a number's numeral -/
theorem dec_of : ∀ (d : List UInt8), d.all isDig = true → d ≠ [] → (d.length ≤ 1 ∨ d.head? ≠ some 48) → Lib.decDigits (valOf d).toNat = d := by
  intro d
  refine snoc_ind (P := fun d => d.all isDig = true → d ≠ [] → (d.length ≤ 1 ∨ d.head? ≠ some 48) → Lib.decDigits (valOf d).toNat = d) (fun _ h => absurd rfl h) ?_ d
  intro l c ih ha _ hh
  rw [List.all_append, Bool.and_eq_true, List.all_cons, Bool.and_eq_true] at ha
  have hb := dg_bd ha.2.1
  rw [valOf_snoc, decDigits_step]
  cases l with
  | nil =>
    rw [valOf_nil]
    rw [if_pos (by omega), List.nil_append, List.nil_append, digC_of ha.2.1 (by omega)]
  | cons x r =>
    have hne : (x :: r).head? ≠ some 48 := by
      rcases hh with h | h
      · simp at h
      · rw [List.cons_append, List.head?_cons] at h; rw [List.head?_cons]; exact h
    have hx : x ≠ 48 := fun e => hne (by rw [e]; rfl)
    have hp := val_pos ha.1 (List.head?_cons ..) hx
    have hi := ih ha.1 (by simp) (Or.inr hne)
    obtain ⟨v, hv⟩ : ∃ v, valOf (x :: r) = v := ⟨_, rfl⟩
    rw [hv] at hp hi ⊢
    have e1 : (10 * v + dg c).toNat / 10 = v.toNat := by omega
    rw [e1, if_neg (by omega), hi, digC_of ha.2.1 (by omega)]
theorem itoa_of {d : List UInt8} (ha : d.all isDig = true) (hne : d ≠ []) (hh : d.length ≤ 1 ∨ d.head? ≠ some 48) : Lib.itoa (valOf d) = d := by
  have h0 := valOf_nonneg d ha
  have := itoa_nat (valOf d).toNat
  rw [show (((valOf d).toNat : Nat) : Int) = valOf d by omega] at this
  rw [this]
  exact dec_of d ha hne hh
theorem numS_ok (S : List UInt8) (n m : Nat) (v : Int) (h : numS S (n, false) = (v, (m, false))) : S.drop n = Lib.itoa v ++ S.drop m ∧ 0 ≤ v ∧ v ≤ mostI ∧ n < m := by
  unfold numS at h
  rw [if_neg nf] at h
  obtain ⟨q, hq⟩ : ∃ q, numK (S.drop n) 0 0 = q := ⟨_, rfl⟩
  obtain ⟨x, k, b⟩ := q
  simp only [] at h
  rw [hq] at h
  injection h with hx h
  injection h with hk hb
  have hx : x = v := hx
  have hk : n + k = m := hk
  have hb : b = false := hb
  subst hx hk hb
  obtain ⟨d, e1, e2, e3, e4, e5, e6, e7, _, e9⟩ := numK_ok _ _ _ _ _ hq (Int.le_refl 0) (by unfold mostI; omega)
  have hd : d ≠ [] := fun e => by rw [e] at e3; simp at e3; omega
  have hv : x = valOf d := e4
  refine ⟨?_, e5, e6, by omega⟩
  rw [hv, itoa_of e2 hd (e9 rfl rfl), e3]
  rw [Nat.zero_add, ← List.drop_drop]
  exact e1
def esc (l : List UInt8) : List UInt8 := l.flatMap fun c => if c = 34 ∨ c = 92 then [92, c] else [c]
theorem esc_cons (c : UInt8) (l : List UInt8) : esc (c :: l) = (if c = 34 ∨ c = 92 then [92, c] else [c]) ++ esc l := by simp [esc]
def quoteL (l : List UInt8) : List UInt8 := [34] ++ esc l ++ [34]
theorem tgtK_ok : ∀ (f : Nat) (r out : List UInt8) (k : Nat) (t : List UInt8) (m : Nat), r.length ≤ f → tgtK r out k = (t, m, false) → out.length ≤ 65536 →
    ∃ y, t = out ++ y ∧ r = esc y ++ r.drop (esc y).length ∧ m = k + (esc y).length ∧ y.all tgtB = true ∧ t.length ≤ 65536
  | _, [], out, k, t, m, _, h, ho => by
    rw [tgtK] at h
    injection h with ht h
    injection h with hm _
    subst ht hm
    exact ⟨[], by simp, rfl, rfl, rfl, ho⟩
  | 0, c :: r, out, k, t, m, hf, h, ho => by simp at hf
  | f + 1, c :: r, out, k, t, m, hf, h, ho => by
    rw [List.length_cons] at hf
    unfold tgtK at h
    split at h
    · injection h with ht h
      injection h with hm _
      subst ht hm
      exact ⟨[], by simp, rfl, rfl, rfl, ho⟩
    · rename_i h34
      split at h
      · injection h with _ h; injection h with _ h; cases h
      · rename_i hno
        have htb : tgtB c = true := by
          cases hh : tgtB c
          · exact absurd (Or.inl hh) hno
          · rfl
        have hol : out.length ≠ 65536 := fun e => hno (Or.inr e)
        split at h
        · rename_i h92
          cases r with
          | nil => injection h with _ h; injection h with _ h; cases h
          | cons d r' =>
            simp only [] at h
            split at h
            · injection h with _ h; injection h with _ h; cases h
            · rename_i hd
              have hd2 : d = 34 ∨ d = 92 := by
                by_cases e : d = 34
                · exact Or.inl e
                · by_cases e2 : d = 92
                  · exact Or.inr e2
                  · exact absurd ⟨e, e2⟩ hd
              rw [List.length_cons] at hf
              obtain ⟨y, e1, e2, e3, e4, e5⟩ := tgtK_ok f r' (out ++ [d]) (k + 2) t m (by omega) h (by rw [List.length_append, List.length_singleton]; omega)
              refine ⟨d :: y, by rw [e1, List.append_assoc]; rfl, ?_, ?_, ?_, e5⟩
              · rw [esc_cons, if_pos hd2, h92]
                show 92 :: d :: r' = [92, d] ++ esc y ++ (92 :: d :: r').drop ([92, d] ++ esc y).length
                rw [List.length_append, show [(92 : UInt8), d].length = 2 from rfl, Nat.add_comm 2, List.drop_succ_cons, List.drop_succ_cons]
                conv => lhs; rw [e2]
                rfl
              · rw [esc_cons, if_pos hd2, List.length_append, show [(92 : UInt8), d].length = 2 from rfl]; omega
              · rw [List.all_cons, e4, Bool.and_true]
                rcases hd2 with rfl | rfl <;> decide
        · rename_i h92
          have hd2 : ¬ (c = 34 ∨ c = 92) := by
            rintro (e | e)
            · exact h34 e
            · exact h92 e
          obtain ⟨y, e1, e2, e3, e4, e5⟩ := tgtK_ok f r (out ++ [c]) (k + 1) t m (by omega) h (by rw [List.length_append, List.length_singleton]; omega)
          refine ⟨c :: y, by rw [e1, List.append_assoc]; rfl, ?_, ?_, ?_, e5⟩
          · rw [esc_cons, if_neg hd2]
            show c :: r = [c] ++ esc y ++ (c :: r).drop ([c] ++ esc y).length
            rw [List.length_append, show [c].length = 1 from rfl, Nat.add_comm 1, List.drop_succ_cons]
            conv => lhs; rw [e2]
            rfl
          · rw [esc_cons, if_neg hd2, List.length_append, show [c].length = 1 from rfl]; omega
          · rw [List.all_cons, e4, htb]; rfl
theorem tgtS_ok (S : List UInt8) (n m : Nat) (t : List UInt8) (h : tgtS S (n, false) = (t, (m, false))) : S.drop n = quoteL t ++ S.drop m ∧ t.all tgtB = true ∧ 1 ≤ t.length ∧ t.length ≤ 65536 := by
  unfold tgtS at h
  obtain ⟨a, ha⟩ : ∃ a, litS S [34] (n, false) = a := ⟨_, rfl⟩
  obtain ⟨n1, b1⟩ := a
  rw [ha] at h
  simp only [] at h
  split at h
  · rename_i hb
    injection h with _ h
    injection h with _ h
    rw [h] at hb; cases hb
  · rename_i hb
    have hb1 : b1 = false := by cases b1 with | false => rfl | true => exact absurd rfl hb
    subst hb1
    obtain ⟨e1, e2⟩ := litS_ok S _ _ _ ha
    obtain ⟨q, hq⟩ : ∃ q, tgtK (S.drop n1) [] 0 = q := ⟨_, rfl⟩
    obtain ⟨t1, k, b2⟩ := q
    rw [hq] at h
    simp only [] at h
    injection h with ht h
    subst ht
    have hbb : (b2 || decide (t1 = [])) = false := by
      cases hx : (b2 || decide (t1 = []))
      · rfl
      · rw [hx, litS_bad] at h; exact absurd (congrArg Prod.snd h) (by simp)
    rw [hbb] at h
    rw [Bool.or_eq_false_iff] at hbb
    obtain ⟨hb2, hne⟩ := hbb
    subst hb2
    obtain ⟨y, f1, f2, f3, f4, f5⟩ := tgtK_ok _ _ _ _ _ _ (Nat.le_refl _) hq (by simp)
    rw [List.nil_append] at f1
    subst f1
    obtain ⟨e3, e4⟩ := litS_ok S _ _ _ h
    have hne2 : t1 ≠ [] := of_decide_eq_false hne
    refine ⟨?_, f4, List.length_pos_iff.2 hne2, f5⟩
    rw [e1, f2]
    rw [Nat.zero_add] at f3
    rw [f3] at e3
    rw [List.drop_drop, e3]
    unfold quoteL
    simp
theorem stK_three (c1 c2 c3 : UInt8) (r : List UInt8) (v : Int) (m : Nat) (h : stK 3 (c1 :: c2 :: c3 :: r) 0 0 = (v, m, false)) : isDig c1 = true ∧ isDig c2 = true ∧ isDig c3 = true ∧ 49 ≤ c1.toNat ∧ c1.toNat ≤ 53 ∧ v = valOf [c1, c2, c3] ∧ m = 3 := by
  rw [stK] at h
  split at h
  · injection h with _ h; injection h with _ h; cases h
  · rename_i n1
    rw [stK] at h
    split at h
    · injection h with _ h; injection h with _ h; cases h
    · rename_i n2
      rw [stK] at h
      split at h
      · injection h with _ h; injection h with _ h; cases h
      · rename_i n3
        rw [stK] at h
        injection h with hv h
        injection h with hm _
        have d1 : isDig c1 = true := by cases hh : isDig c1 with | true => rfl | false => exact absurd (Or.inl hh) n1
        have d2 : isDig c2 = true := by cases hh : isDig c2 with | true => rfl | false => exact absurd (Or.inl hh) n2
        have d3 : isDig c3 = true := by cases hh : isDig c3 with | true => rfl | false => exact absurd (Or.inl hh) n3
        have h1 : 49 ≤ c1.toNat ∧ c1.toNat ≤ 53 := by
          by_cases e : 49 ≤ c1.toNat ∧ c1.toNat ≤ 53
          · exact e
          · exact absurd (Or.inr ⟨rfl, e⟩) n1
        exact ⟨d1, d2, d3, h1.1, h1.2, by rw [← hv]; rfl, hm.symm⟩
theorem stS_ok (S : List UInt8) (n m : Nat) (v : Int) (h : stS S (n, false) = (v, (m, false))) : S.drop n = Lib.itoa v ++ S.drop m ∧ 100 ≤ v ∧ v ≤ 599 := by
  unfold stS at h
  rw [if_neg nf] at h
  obtain ⟨q, hq⟩ : ∃ q, stK 3 (S.drop n) 0 0 = q := ⟨_, rfl⟩
  obtain ⟨x, k, b⟩ := q
  simp only [] at h
  rw [hq] at h
  injection h with hx h
  injection h with hk hb
  have hx : x = v := hx
  have hk : n + k = m := hk
  have hb : b = false := hb
  subst hx hk hb
  obtain ⟨R, hR⟩ : ∃ R, S.drop n = R := ⟨_, rfl⟩
  rw [hR] at hq
  match R, hR, hq with
  | [], _, hq => simp [stK] at hq
  | [c1], _, hq => simp only [stK] at hq; split at hq <;> simp at hq
  | [c1, c2], _, hq => simp only [stK] at hq; split at hq <;> (try split at hq) <;> simp at hq
  | c1 :: c2 :: c3 :: r, hR, hq =>
    obtain ⟨d1, d2, d3, l1, l2, e1, e2⟩ := stK_three c1 c2 c3 r x k hq
    have b2 := dg_bd d2
    have b3 := dg_bd d3
    have ev : valOf [c1, c2, c3] = 10 * (10 * (10 * 0 + dg c1) + dg c2) + dg c3 := rfl
    have l1' : 1 ≤ dg c1 ∧ dg c1 ≤ 5 := by unfold dg; omega
    refine ⟨?_, by rw [e1, ev]; omega, by rw [e1, ev]; omega⟩
    rw [e1, itoa_of (by simp [d1, d2, d3]) (by simp) (Or.inr (by
      rw [List.head?_cons]
      intro e
      injection e with e
      subst e
      exact absurd l1 (by decide))), e2, ← List.drop_drop, hR]
    rfl
end Go.Proofs.YtfgaiopkclogmaaDoor
