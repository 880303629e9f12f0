/- The lines of a ledger in plain Lean: a right entry's line says that entry. -/
import Derived.Test.YtfgaiopkclogmaaDoorLedgR
namespace Go.Proofs.YtfgaiopkclogmaaDoor
open Go Go.RowKit

theorem litS_fwd (S : List UInt8) : ∀ (t r : List UInt8) (n : Nat), S.drop n = t ++ r → litS S t (n, false) = (n + t.length, false) ∧ S.drop (n + t.length) = r
  | [], r, n, h => ⟨rfl, h⟩
  | c :: t, r, n, h => by
    have hlt : n < S.length := by
      have := congrArg List.length h
      rw [List.length_drop, List.length_append, List.length_cons] at this
      omega
    rw [List.drop_eq_getElem_cons hlt, List.cons_append] at h
    injection h with h1 h2
    obtain ⟨e1, e2⟩ := litS_fwd S t r (n + 1) h2
    rw [litS, if_neg nf, if_pos (by rw [List.getElem?_eq_getElem hlt, h1])]
    rw [List.length_cons, show n + (t.length + 1) = n + 1 + t.length by omega]
    exact ⟨e1, e2⟩
def stopsAt (may : UInt8 → Bool) (r : List UInt8) : Prop := ∀ c r', r = c :: r' → may c = false
theorem runK_fwd (may : UInt8 → Bool) : ∀ (x r : List UInt8) (m : Nat), x.all may = true → x.length ≤ m → stopsAt may r → runK may m (x ++ r) = x.length
  | [], [], 0, _, _, _ => rfl
  | [], [], _ + 1, _, _, _ => rfl
  | [], c :: r, 0, _, _, _ => rfl
  | [], c :: r, m + 1, _, _, hs => by
    rw [List.nil_append, runK, if_neg (by rw [hs c r rfl]; decide)]; rfl
  | c :: x, r, 0, _, hl, _ => by simp at hl
  | c :: x, r, m + 1, ha, hl, hs => by
    rw [List.all_cons, Bool.and_eq_true] at ha
    rw [List.cons_append, runK, if_pos ha.1, runK_fwd may x r m ha.2 (by simp at hl; omega) hs, List.length_cons]
theorem runS_fwd {S : List UInt8} {may : UInt8 → Bool} {x r : List UInt8} {mx n : Nat} (h : S.drop n = x ++ r) (ha : x.all may = true) (h1 : 1 ≤ x.length) (h2 : x.length ≤ mx) (hs : stopsAt may r) :
    runS S may mx (n, false) = (n + x.length, false) ∧ S.drop (n + x.length) = r := by
  unfold runS
  rw [if_neg nf]
  rw [show S.drop (n, false).1 = x ++ r from h, runK_fwd may x r mx ha h2 hs, decide_eq_false (by omega)]
  refine ⟨rfl, ?_⟩
  rw [← List.drop_drop, h, List.drop_left]
theorem fold_ge : ∀ (d : List UInt8) (v : Int), d.all isDig = true → 0 ≤ v → v ≤ d.foldl (fun n c => 10 * n + dg c) v
  | [], v, _, _ => Int.le_refl _
  | c :: d, v, ha, h0 => by
    rw [List.all_cons, Bool.and_eq_true] at ha
    have hb := dg_bd ha.1
    have := fold_ge d (10 * v + dg c) ha.2 (by omega)
    rw [List.foldl_cons]
    omega
theorem numK_fwd : ∀ (d r : List UInt8) (v : Int) (k : Nat), d.all isDig = true → 0 ≤ v → d.foldl (fun n c => 10 * n + dg c) v ≤ mostI → (0 < k → v = 0 → d = []) → (k = 0 → v = 0 → d.length ≤ 1 ∨ d.head? ≠ some 48) → stopsAt isDig r →
    numK (d ++ r) v k = (d.foldl (fun n c => 10 * n + dg c) v, k + d.length, decide (k + d.length = 0))
  | [], [], v, k, _, _, _, _, _, _ => rfl
  | [], c :: r, v, k, _, _, _, _, _, hs => by
    rw [List.nil_append, numK, if_neg (by rw [hs c r rfl]; decide)]; rfl
  | c :: d, r, v, k, ha, h0, hm, hz, hh, hs => by
    rw [List.all_cons, Bool.and_eq_true] at ha
    have hb := dg_bd ha.1
    rw [List.foldl_cons] at hm ⊢
    have hg := fold_ge d (10 * v + dg c) ha.2 (by omega)
    have hno : ¬ ((0 < k ∧ v = 0) ∨ (mostI - dg c) / 10 < v) := by
      rintro (⟨h1, h2⟩ | h1)
      · exact absurd (hz h1 h2) (by simp)
      · unfold mostI at h1 hm; omega
    have ih := numK_fwd d r (10 * v + dg c) (k + 1) ha.2 (by omega) hm ?_ (fun h => by omega) hs
    · rw [List.cons_append, numK, if_pos ha.1, if_neg hno, ih, List.length_cons, show k + 1 + d.length = k + (d.length + 1) by omega]
    · intro _ hv
      have hv0 : v = 0 := by omega
      have hc0 : dg c = 0 := by omega
      have hk : k = 0 := by
        by_cases h : k = 0
        · exact h
        · exact absurd (hz (by omega) hv0) (by simp)
      rcases hh hk hv0 with h | h
      · rw [List.length_cons] at h
        exact List.eq_nil_of_length_eq_zero (by omega)
      · exfalso
        apply h
        rw [List.head?_cons]
        congr 1
        apply UInt8.toNat_inj.1
        unfold dg at hc0
        show c.toNat = 48
        omega
theorem dec_head : ∀ (u : Nat), u ≠ 0 → (Lib.decDigits u).head? ≠ some 48 := by
  intro u
  induction u using Nat.strongRecOn with
  | ind u ih =>
    intro h0
    rw [decDigits_step]
    by_cases h : u / 10 = 0
    · rw [if_pos h, List.nil_append, List.head?_cons]
      intro e
      injection e with e
      have := digC_toNat u
      rw [e] at this
      have : ((48 : UInt8).toNat : Int) = 48 := rfl
      omega
    · rw [if_neg h]
      have hi := ih (u / 10) (by omega) h
      have hne := (val_dec (u / 10)).2.2
      cases hd : Lib.decDigits (u / 10) with
      | nil => exact absurd hd hne
      | cons c r => rw [hd] at hi; exact hi
theorem itoa_dig {v : Int} (h : 0 ≤ v) : (Lib.itoa v).all isDig = true ∧ valOf (Lib.itoa v) = v ∧ Lib.itoa v ≠ [] ∧ ((Lib.itoa v).length ≤ 1 ∨ (Lib.itoa v).head? ≠ some 48) := by
  have e : Lib.itoa v = Lib.decDigits v.toNat := by
    have := itoa_nat v.toNat
    rw [show ((v.toNat : Nat) : Int) = v by omega] at this
    exact this
  obtain ⟨h1, h2, h3⟩ := val_dec v.toNat
  rw [e]
  refine ⟨h2, by rw [h1]; omega, h3, ?_⟩
  by_cases h0 : v.toNat = 0
  · left
    rw [h0, decDigits_step, if_pos (by decide)]
    exact Nat.le_refl _
  · exact Or.inr (dec_head _ h0)
theorem numS_fwd {S r : List UInt8} {v : Int} {n : Nat} (h : S.drop n = Lib.itoa v ++ r) (h0 : 0 ≤ v) (h1 : v ≤ mostI) (hs : stopsAt isDig r) :
    numS S (n, false) = (v, (n + (Lib.itoa v).length, false)) ∧ S.drop (n + (Lib.itoa v).length) = r := by
  obtain ⟨d1, d2, d3, d4⟩ := itoa_dig h0
  have hl := List.length_pos_iff.2 d3
  have hf : (Lib.itoa v).foldl (fun n c => 10 * n + dg c) 0 = v := d2
  have hk := numK_fwd (Lib.itoa v) r 0 0 d1 (Int.le_refl _) (by rw [hf]; exact h1) (fun h => by omega) (fun _ _ => d4) hs
  unfold numS
  rw [if_neg nf]
  rw [show S.drop (n, false).1 = Lib.itoa v ++ r from h, hk, hf, Nat.zero_add, decide_eq_false (by omega)]
  refine ⟨rfl, ?_⟩
  rw [← List.drop_drop, h, List.drop_left]
theorem tgtK_fwd : ∀ (y r out : List UInt8) (k : Nat), y.all tgtB = true → out.length + y.length ≤ 65536 → tgtK (esc y ++ 34 :: r) out k = (out ++ y, k + (esc y).length, false)
  | [], r, out, k, _, _ => by
    show tgtK (34 :: r) out k = _
    unfold tgtK
    rw [if_pos rfl, List.append_nil]; rfl
  | c :: y, r, out, k, ha, hl => by
    rw [List.all_cons, Bool.and_eq_true] at ha
    rw [List.length_cons] at hl
    have ih : ∀ k, tgtK (esc y ++ 34 :: r) (out ++ [c]) k = (out ++ [c] ++ y, k + (esc y).length, false) := fun k => tgtK_fwd y r (out ++ [c]) k ha.2 (by rw [List.length_append, List.length_singleton]; omega)
    have hno : ∀ b : UInt8, tgtB b = true → ¬ (tgtB b = false ∨ out.length = 65536) := by
      rintro b hb (h | h)
      · rw [hb] at h; cases h
      · omega
    rw [esc_cons]
    by_cases hc : c = 34 ∨ c = 92
    · rw [if_pos hc]
      show tgtK (92 :: c :: (esc y ++ 34 :: r)) out k = _
      unfold tgtK
      rw [if_neg (by decide), if_neg (hno 92 (by decide)), if_pos rfl]
      simp only []
      rw [if_neg (fun h => by rcases hc with e | e; exact h.1 e; exact h.2 e), ih]
      rw [List.append_assoc, List.length_append]
      show (out ++ ([c] ++ y), k + 2 + (esc y).length, false) = (out ++ c :: y, k + (2 + (esc y).length), false)
      rw [Nat.add_assoc]; rfl
    · rw [if_neg hc]
      show tgtK (c :: (esc y ++ 34 :: r)) out k = _
      unfold tgtK
      rw [if_neg (fun e => hc (Or.inl e)), if_neg (hno c ha.1), if_neg (fun e => hc (Or.inr e)), ih]
      rw [List.append_assoc, List.length_append]
      show (out ++ ([c] ++ y), k + 1 + (esc y).length, false) = (out ++ c :: y, k + (1 + (esc y).length), false)
      rw [Nat.add_assoc]; rfl
theorem tgtS_fwd {S r t : List UInt8} {n : Nat} (h : S.drop n = quoteL t ++ r) (ha : t.all tgtB = true) (h1 : 1 ≤ t.length) (h2 : t.length ≤ 65536) :
    tgtS S (n, false) = (t, (n + (quoteL t).length, false)) ∧ S.drop (n + (quoteL t).length) = r := by
  have e : S.drop n = [34] ++ (esc t ++ 34 :: r) := by rw [h]; unfold quoteL; simp
  obtain ⟨e1, e2⟩ := litS_fwd S _ _ _ e
  have hk := tgtK_fwd t r [] 0 ha (by simp; omega)
  have e3 : S.drop (n + [(34 : UInt8)].length + (esc t).length) = [34] ++ r := by rw [← List.drop_drop, e2, List.drop_left]; rfl
  obtain ⟨e4, e5⟩ := litS_fwd S _ _ _ e3
  have hlen : n + (quoteL t).length = n + [(34 : UInt8)].length + (esc t).length + [(34 : UInt8)].length := by unfold quoteL; simp; omega
  have hne : t ≠ [] := List.length_pos_iff.1 h1
  constructor
  · unfold tgtS
    rw [e1]
    simp only []
    rw [if_neg (by decide), e2, hk]
    simp only [List.nil_append, Nat.zero_add]
    rw [decide_eq_false hne, Bool.or_false, e4, hlen]
  · rw [hlen]; exact e5
theorem stS_fwd {S r : List UInt8} {v : Int} {n : Nat} (h : S.drop n = Lib.itoa v ++ r) (h0 : 100 ≤ v) (h1 : v ≤ 599) : stS S (n, false) = (v, (n + (Lib.itoa v).length, false)) ∧ S.drop (n + (Lib.itoa v).length) = r := by
  obtain ⟨d1, d2, d3, d4⟩ := itoa_dig (v := v) (by omega)
  have hlen : (Lib.itoa v).length = 3 := by
    have e : Lib.itoa v = Lib.decDigits v.toNat := by
      have := itoa_nat v.toNat
      rw [show ((v.toNat : Nat) : Int) = v by omega] at this
      exact this
    rw [e]
    exact dec_len 2 v.toNat (by show 100 ≤ _; omega) (by show _ < 1000; omega)
  refine ⟨?_, by rw [← List.drop_drop, h, List.drop_left]⟩
  obtain ⟨d, hd⟩ : ∃ d, Lib.itoa v = d := ⟨_, rfl⟩
  rw [hd] at d1 d2 hlen h ⊢
  match d, hlen, d1, d2, h with
  | [c1, c2, c3], _, d1, d2, h =>
    simp only [List.all_cons, List.all_nil, Bool.and_true, Bool.and_eq_true] at d1
    have b1 := dg_bd d1.1
    have b2 := dg_bd d1.2.1
    have b3 := dg_bd d1.2.2
    have ev : 10 * (10 * (10 * 0 + dg c1) + dg c2) + dg c3 = v := d2
    have hc1 : 49 ≤ c1.toNat ∧ c1.toNat ≤ 53 := by
      have : 1 ≤ dg c1 ∧ dg c1 ≤ 5 := by omega
      unfold dg at this
      omega
    unfold stS
    rw [if_neg nf]
    rw [show S.drop (n, false).1 = c1 :: c2 :: c3 :: r from h]
    have hk : stK 3 (c1 :: c2 :: c3 :: r) 0 0 = (v, 3, false) := by
      rw [stK, if_neg, stK, if_neg, stK, if_neg, stK]
      · rw [← ev]
      · rintro (h | ⟨h, _⟩)
        · rw [d1.2.2] at h; cases h
        · omega
      · rintro (h | ⟨h, _⟩)
        · rw [d1.2.1] at h; cases h
        · omega
      · rintro (h | ⟨_, h⟩)
        · rw [d1.1] at h; cases h
        · exact h hc1
    rw [hk]
    rfl
theorem stops_cons {may : UInt8 → Bool} {c : UInt8} {r : List UInt8} (h : may c = false) : stopsAt may (c :: r) := by
  intro b r' e
  injection e with e _
  rw [← e]; exact h
theorem stops_nil {may : UInt8 → Bool} : stopsAt may [] := fun _ _ e => by cases e
theorem rightE_facts {e : En} (h : rightE e = true) : (0 ≤ e.conn ∧ 0 ≤ e.numb ∧ 0 ≤ e.byts ∧ 0 ≤ e.tick ∧ 100 ≤ e.stat ∧ e.stat ≤ 599) ∧ (e.name.all nameB = true ∧ 1 ≤ e.name.length ∧ e.name.length ≤ 64) ∧ (e.meth.all signB = true ∧ 1 ≤ e.meth.length ∧ e.meth.length ≤ 24) ∧ (e.tgt.all tgtB = true ∧ 1 ≤ e.tgt.length ∧ e.tgt.length ≤ 65536) := by
  unfold rightE at h
  simp only [Bool.and_eq_true, decide_eq_true_eq] at h
  exact ⟨h.1, h.2.1, h.2.2.1, h.2.2.2⟩
/-- THE LAW: a right entry's line says that entry. -/
theorem parse_print {e : En} (h : rightE e = true) (hb : e.conn ≤ mostI ∧ e.numb ≤ mostI ∧ e.tick ≤ mostI ∧ e.byts ≤ mostI) :
    parsedE (printL e) = e ∧ (parseEnd (printL e)).2 = false ∧ (parseEnd (printL e)).1 = (printL e).length := by
  obtain ⟨⟨n1, n2, n3, n4, n5, n6⟩, ⟨a1, a2, a3⟩, ⟨i1, i2, i3⟩, ⟨k1, k2, k3⟩⟩ := rightE_facts h
  obtain ⟨S, hS⟩ : ∃ S, printL e = S := ⟨_, rfl⟩
  rw [hS]
  have e0 : S.drop 0 = printL e := hS.symm
  unfold printL at e0
  obtain ⟨fA, dA⟩ := runS_fwd (mx := 64) (may := nameB) e0 a1 a2 a3 (stops_cons (by decide))
  obtain ⟨fB, dB⟩ := litS_fwd S _ _ _ dA
  obtain ⟨fC, dC⟩ := numS_fwd dB n1 hb.1 (stops_cons (by decide))
  obtain ⟨fD, dD⟩ := litS_fwd S _ _ _ dC
  obtain ⟨fE, dE⟩ := numS_fwd dD n2 hb.2.1 (stops_cons (by decide))
  obtain ⟨fF, dF⟩ := litS_fwd S _ _ _ dE
  obtain ⟨fG, dG⟩ := numS_fwd dF n4 hb.2.2.1 (stops_cons (by decide))
  obtain ⟨fH, dH⟩ := litS_fwd S _ _ _ dG
  obtain ⟨fI, dI⟩ := runS_fwd (mx := 24) (may := signB) dH i1 i2 i3 (stops_cons (by decide))
  obtain ⟨fJ, dJ⟩ := litS_fwd S _ _ _ dI
  obtain ⟨fK, dK⟩ := tgtS_fwd dJ k1 k2 k3
  obtain ⟨fL, dL⟩ := litS_fwd S _ _ _ dK
  obtain ⟨fM, dM⟩ := stS_fwd dL n5 n6
  obtain ⟨fN, dN⟩ := litS_fwd S _ _ _ dM
  obtain ⟨fO, dO⟩ := numS_fwd (r := []) (by rw [List.append_nil]; exact dN) n3 hb.2.2.2 stops_nil
  have gA : pA S = _ := fA
  have gB : pB S = _ := (congrArg (litS S conL) gA).trans fB
  have gC : pC S = _ := (congrArg (numS S) gB).trans fC
  have gD : pD S = _ := (congrArg (fun (q : Int × St) => litS S numbL q.2) gC).trans fD
  have gE : pE S = _ := (congrArg (numS S) gD).trans fE
  have gF : pF S = _ := (congrArg (fun (q : Int × St) => litS S tickL q.2) gE).trans fF
  have gG : pG S = _ := (congrArg (numS S) gF).trans fG
  have gH : pH S = _ := (congrArg (fun (q : Int × St) => litS S [32] q.2) gG).trans fH
  have gI : pI S = _ := (congrArg (runS S signB 24) gH).trans fI
  have gJ : pJ S = _ := (congrArg (litS S [32]) gI).trans fJ
  have gK : pK S = _ := (congrArg (tgtS S) gJ).trans fK
  have gL : pL S = _ := (congrArg (fun (q : List UInt8 × St) => litS S [32] q.2) gK).trans fL
  have gM : pM S = _ := (congrArg (stS S) gL).trans fM
  have gN : pN S = _ := (congrArg (fun (q : Int × St) => litS S [32] q.2) gM).trans fN
  have gO : pO S = _ := (congrArg (numS S) gN).trans fO
  refine ⟨?_, ?_, ?_⟩
  · unfold parsedE
    rw [gA, gC, gE, gG, gH, gI, gK, gM, gO]
    have x1 : S.take (0 + e.name.length) = e.name := by
      rw [Nat.zero_add, show S = e.name ++ _ from e0, List.take_left]
    simp only []
    rw [x1, Nat.add_sub_cancel_left, dH, List.take_left]
  · unfold parseEnd; rw [gO]
  · unfold parseEnd
    rw [gO]
    simp only []
    have hl := congrArg List.length dO
    have hle : (pO S).2.1 ≤ S.length := by
      have q : S.drop (pN S).1 = Lib.itoa e.byts ++ [] := by rw [gN, List.append_nil]; exact dN
      have := congrArg List.length q
      rw [List.length_drop, List.append_nil] at this
      rw [gO]
      simp only []
      have hp := List.length_pos_iff.2 (itoa_dig n3).2.2.1
      rw [gN] at this
      simp only [] at this
      omega
    rw [gO] at hle
    simp only [] at hle
    rw [List.length_drop, List.length_nil] at hl
    omega
end Go.Proofs.YtfgaiopkclogmaaDoor
