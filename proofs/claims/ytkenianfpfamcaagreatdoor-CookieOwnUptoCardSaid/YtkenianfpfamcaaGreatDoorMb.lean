/- The lines of a ledger in plain Lean: what was read is what stands there. Contracts: is a text a boundary (program and document). The lines of a ledger in plain Lean: what a line says; a line that says an entry is that entry's line. Contracts of octet: blanks trimmed off a text (program and reference). What a cookie's text says, what cookies say that are sent: plain; printed and read. Contracts of cookie: bytes of values, values, paths, domains. Program's. Contracts of octet: signs of tokens, by the table (for any number of variables). Contract of cookie.right: may there be a cookie. Texts cut at a byte, in the library's words and in ours: plain. -/
import Derived.Test.YtkenianfpfamcaaGreatDoorMa
import Derived.BigQuiet
import Derived.Test.YtkenianfpfamcaaGreatDoorShelf
import Derived.Shelf.Strings.SlTrimAscii
import Derived.Lib.Join
import Derived.Lib.SplitLaws
import Derived.Lib.Strings
namespace Go.Proofs.YtkenianfpfamcaaGreatDoor
open Go Go.RowKit

theorem nf : ¬ (false = true) := by decide
theorem litS_ok (S : List UInt8) : ∀ (t : List UInt8) (n m : Nat), litS S t (n, false) = (m, false) → S.drop n = t ++ S.drop m ∧ m = n + t.length
  | [], n, m, h => by
    injection h with h _
    subst h
    exact ⟨rfl, rfl⟩
  | c :: t, n, m, h => by
    rw [litS, if_neg nf] at h
    split at h
    · rename_i hc
      obtain ⟨e1, e2⟩ := litS_ok S t (n + 1) m h
      obtain ⟨hlt, hv⟩ := List.getElem?_eq_some_iff.1 hc
      refine ⟨?_, by rw [List.length_cons]; omega⟩
      have hv2 : S[n]'hlt = c := hv
      rw [List.drop_eq_getElem_cons hlt, hv2, e1, List.cons_append]
    · injection h with _ h; cases h
theorem runK_all (may : UInt8 → Bool) : ∀ (m : Nat) (l : List UInt8), (l.take (runK may m l)).all may = true
  | 0, _ => by rw [runK, List.take_zero]; rfl
  | _ + 1, [] => rfl
  | m + 1, c :: r => by
    rw [runK]
    split
    · rename_i hc
      rw [List.take_succ_cons, List.all_cons, hc, runK_all may m r]; rfl
    · rw [List.take_zero]; rfl
theorem runS_ok (S : List UInt8) (may : UInt8 → Bool) (mx n m : Nat) (h : runS S may mx (n, false) = (m, false)) : ∃ x, S.drop n = x ++ S.drop m ∧ x.all may = true ∧ 1 ≤ x.length ∧ x.length ≤ mx ∧ m = n + x.length := by
  unfold runS at h
  rw [if_neg nf] at h
  injection h with hm hb
  have hk : runK may mx (S.drop n) ≠ 0 := of_decide_eq_false hb
  have hl := runK_le may mx (S.drop n)
  have ha := runK_all may mx (S.drop n)
  have hm : n + runK may mx (S.drop n) = m := hm
  obtain ⟨k, hkk⟩ : ∃ k, runK may mx (S.drop n) = k := ⟨_, rfl⟩
  rw [hkk] at hk hl ha hm
  have hlen : ((S.drop n).take k).length = k := by rw [List.length_take]; omega
  refine ⟨(S.drop n).take k, ?_, ha, by omega, by omega, by omega⟩
  rw [← hm, ← List.drop_drop, List.take_append_drop]
theorem val_pos {d : List UInt8} {c : UInt8} (ha : d.all isDig = true) (hh : d.head? = some c) (hc : c ≠ 48) : 0 < valOf d := by
  have h1 := valOf_take d ha 1
  cases d with
  | nil => cases hh
  | cons x r =>
    rw [List.head?_cons] at hh
    injection hh with hh
    subst hh
    rw [List.all_cons, Bool.and_eq_true] at ha
    have hb := dg_bd ha.1
    have e : valOf ((x :: r).take 1) = dg x := by show 10 * 0 + dg x = dg x; omega
    rw [e] at h1
    have hx : dg x ≠ 0 := by
      intro h0
      apply hc
      unfold dg at h0
      apply UInt8.toNat_inj.1
      show x.toNat = 48
      omega
    omega
theorem digC_of {c : UInt8} {u : Nat} (_ : isDig c = true) (hu : ((u % 10 : Nat) : Int) = dg c) : digC u = c := by
  apply UInt8.toNat_inj.1
  have h1 := digC_toNat u
  unfold dg at hu
  omega
/-- digits without a 0 ahead are a number's numeral -/
theorem dec_of : ∀ (d : List UInt8), d.all isDig = true → d ≠ [] → (d.length ≤ 1 ∨ d.head? ≠ some 48) → Lib.decDigits (valOf d).toNat = d := by
  intro d
  refine snoc_ind (P := fun d => d.all isDig = true → d ≠ [] → (d.length ≤ 1 ∨ d.head? ≠ some 48) → Lib.decDigits (valOf d).toNat = d) (fun _ h => absurd rfl h) ?_ d
  intro l c ih ha _ hh
  rw [List.all_append, Bool.and_eq_true, List.all_cons, Bool.and_eq_true] at ha
  have hb := dg_bd ha.2.1
  rw [valOf_snoc, decDigits_step]
  cases l with
  | nil =>
    rw [valOf_nil]
    rw [if_pos (by omega), List.nil_append, List.nil_append, digC_of ha.2.1 (by omega)]
  | cons x r =>
    have hne : (x :: r).head? ≠ some 48 := by
      rcases hh with h | h
      · simp at h
      · rw [List.cons_append, List.head?_cons] at h; rw [List.head?_cons]; exact h
    have hx : x ≠ 48 := fun e => hne (by rw [e]; rfl)
    have hp := val_pos ha.1 (List.head?_cons ..) hx
    have hi := ih ha.1 (by simp) (Or.inr hne)
    obtain ⟨v, hv⟩ : ∃ v, valOf (x :: r) = v := ⟨_, rfl⟩
    rw [hv] at hp hi ⊢
    have e1 : (10 * v + dg c).toNat / 10 = v.toNat := by omega
    rw [e1, if_neg (by omega), hi, digC_of ha.2.1 (by omega)]
theorem itoa_of {d : List UInt8} (ha : d.all isDig = true) (hne : d ≠ []) (hh : d.length ≤ 1 ∨ d.head? ≠ some 48) : Lib.itoa (valOf d) = d := by
  have h0 := valOf_nonneg d ha
  have := itoa_nat (valOf d).toNat
  rw [show (((valOf d).toNat : Nat) : Int) = valOf d by omega] at this
  rw [this]
  exact dec_of d ha hne hh
theorem numS_ok (S : List UInt8) (n m : Nat) (v : Int) (h : numS S (n, false) = (v, (m, false))) : S.drop n = Lib.itoa v ++ S.drop m ∧ 0 ≤ v ∧ v ≤ mostI ∧ n < m := by
  unfold numS at h
  rw [if_neg nf] at h
  obtain ⟨q, hq⟩ : ∃ q, numK (S.drop n) 0 0 = q := ⟨_, rfl⟩
  obtain ⟨x, k, b⟩ := q
  simp only [] at h
  rw [hq] at h
  injection h with hx h
  injection h with hk hb
  have hx : x = v := hx
  have hk : n + k = m := hk
  have hb : b = false := hb
  subst hx hk hb
  obtain ⟨d, e1, e2, e3, e4, e5, e6, e7, _, e9⟩ := numK_ok _ _ _ _ _ hq (Int.le_refl 0) (by unfold mostI; omega)
  have hd : d ≠ [] := fun e => by rw [e] at e3; simp at e3; omega
  have hv : x = valOf d := e4
  refine ⟨?_, e5, e6, by omega⟩
  rw [hv, itoa_of e2 hd (e9 rfl rfl), e3]
  rw [Nat.zero_add, ← List.drop_drop]
  exact e1
def esc (l : List UInt8) : List UInt8 := l.flatMap fun c => if c = 34 ∨ c = 92 then [92, c] else [c]
theorem esc_cons (c : UInt8) (l : List UInt8) : esc (c :: l) = (if c = 34 ∨ c = 92 then [92, c] else [c]) ++ esc l := by simp [esc]
def quoteL (l : List UInt8) : List UInt8 := [34] ++ esc l ++ [34]
theorem tgtK_ok : ∀ (f : Nat) (r out : List UInt8) (k : Nat) (t : List UInt8) (m : Nat), r.length ≤ f → tgtK r out k = (t, m, false) → out.length ≤ 65536 →
    ∃ y, t = out ++ y ∧ r = esc y ++ r.drop (esc y).length ∧ m = k + (esc y).length ∧ y.all tgtB = true ∧ t.length ≤ 65536
  | _, [], out, k, t, m, _, h, ho => by
    rw [tgtK] at h
    injection h with ht h
    injection h with hm _
    subst ht hm
    exact ⟨[], by simp, rfl, rfl, rfl, ho⟩
  | 0, c :: r, out, k, t, m, hf, h, ho => by simp at hf
  | f + 1, c :: r, out, k, t, m, hf, h, ho => by
    rw [List.length_cons] at hf
    unfold tgtK at h
    split at h
    · injection h with ht h
      injection h with hm _
      subst ht hm
      exact ⟨[], by simp, rfl, rfl, rfl, ho⟩
    · rename_i h34
      split at h
      · injection h with _ h; injection h with _ h; cases h
      · rename_i hno
        have htb : tgtB c = true := by
          cases hh : tgtB c
          · exact absurd (Or.inl hh) hno
          · rfl
        have hol : out.length ≠ 65536 := fun e => hno (Or.inr e)
        split at h
        · rename_i h92
          cases r with
          | nil => injection h with _ h; injection h with _ h; cases h
          | cons d r' =>
            simp only [] at h
            split at h
            · injection h with _ h; injection h with _ h; cases h
            · rename_i hd
              have hd2 : d = 34 ∨ d = 92 := by
                by_cases e : d = 34
                · exact Or.inl e
                · by_cases e2 : d = 92
                  · exact Or.inr e2
                  · exact absurd ⟨e, e2⟩ hd
              rw [List.length_cons] at hf
              obtain ⟨y, e1, e2, e3, e4, e5⟩ := tgtK_ok f r' (out ++ [d]) (k + 2) t m (by omega) h (by rw [List.length_append, List.length_singleton]; omega)
              refine ⟨d :: y, by rw [e1, List.append_assoc]; rfl, ?_, ?_, ?_, e5⟩
              · rw [esc_cons, if_pos hd2, h92]
                show 92 :: d :: r' = [92, d] ++ esc y ++ (92 :: d :: r').drop ([92, d] ++ esc y).length
                rw [List.length_append, show [(92 : UInt8), d].length = 2 from rfl, Nat.add_comm 2, List.drop_succ_cons, List.drop_succ_cons]
                conv => lhs; rw [e2]
                rfl
              · rw [esc_cons, if_pos hd2, List.length_append, show [(92 : UInt8), d].length = 2 from rfl]; omega
              · rw [List.all_cons, e4, Bool.and_true]
                rcases hd2 with rfl | rfl <;> decide
        · rename_i h92
          have hd2 : ¬ (c = 34 ∨ c = 92) := by
            rintro (e | e)
            · exact h34 e
            · exact h92 e
          obtain ⟨y, e1, e2, e3, e4, e5⟩ := tgtK_ok f r (out ++ [c]) (k + 1) t m (by omega) h (by rw [List.length_append, List.length_singleton]; omega)
          refine ⟨c :: y, by rw [e1, List.append_assoc]; rfl, ?_, ?_, ?_, e5⟩
          · rw [esc_cons, if_neg hd2]
            show c :: r = [c] ++ esc y ++ (c :: r).drop ([c] ++ esc y).length
            rw [List.length_append, show [c].length = 1 from rfl, Nat.add_comm 1, List.drop_succ_cons]
            conv => lhs; rw [e2]
            rfl
          · rw [esc_cons, if_neg hd2, List.length_append, show [c].length = 1 from rfl]; omega
          · rw [List.all_cons, e4, htb]; rfl
theorem tgtS_ok (S : List UInt8) (n m : Nat) (t : List UInt8) (h : tgtS S (n, false) = (t, (m, false))) : S.drop n = quoteL t ++ S.drop m ∧ t.all tgtB = true ∧ 1 ≤ t.length ∧ t.length ≤ 65536 := by
  unfold tgtS at h
  obtain ⟨a, ha⟩ : ∃ a, litS S [34] (n, false) = a := ⟨_, rfl⟩
  obtain ⟨n1, b1⟩ := a
  rw [ha] at h
  simp only [] at h
  split at h
  · rename_i hb
    injection h with _ h
    injection h with _ h
    rw [h] at hb; cases hb
  · rename_i hb
    have hb1 : b1 = false := by cases b1 with | false => rfl | true => exact absurd rfl hb
    subst hb1
    obtain ⟨e1, e2⟩ := litS_ok S _ _ _ ha
    obtain ⟨q, hq⟩ : ∃ q, tgtK (S.drop n1) [] 0 = q := ⟨_, rfl⟩
    obtain ⟨t1, k, b2⟩ := q
    rw [hq] at h
    simp only [] at h
    injection h with ht h
    subst ht
    have hbb : (b2 || decide (t1 = [])) = false := by
      cases hx : (b2 || decide (t1 = []))
      · rfl
      · rw [hx, litS_bad] at h; exact absurd (congrArg Prod.snd h) (by simp)
    rw [hbb] at h
    rw [Bool.or_eq_false_iff] at hbb
    obtain ⟨hb2, hne⟩ := hbb
    subst hb2
    obtain ⟨y, f1, f2, f3, f4, f5⟩ := tgtK_ok _ _ _ _ _ _ (Nat.le_refl _) hq (by simp)
    rw [List.nil_append] at f1
    subst f1
    obtain ⟨e3, e4⟩ := litS_ok S _ _ _ h
    have hne2 : t1 ≠ [] := of_decide_eq_false hne
    refine ⟨?_, f4, List.length_pos_iff.2 hne2, f5⟩
    rw [e1, f2]
    rw [Nat.zero_add] at f3
    rw [f3] at e3
    rw [List.drop_drop, e3]
    unfold quoteL
    simp
theorem stK_three (c1 c2 c3 : UInt8) (r : List UInt8) (v : Int) (m : Nat) (h : stK 3 (c1 :: c2 :: c3 :: r) 0 0 = (v, m, false)) : isDig c1 = true ∧ isDig c2 = true ∧ isDig c3 = true ∧ 49 ≤ c1.toNat ∧ c1.toNat ≤ 53 ∧ v = valOf [c1, c2, c3] ∧ m = 3 := by
  rw [stK] at h
  split at h
  · injection h with _ h; injection h with _ h; cases h
  · rename_i n1
    rw [stK] at h
    split at h
    · injection h with _ h; injection h with _ h; cases h
    · rename_i n2
      rw [stK] at h
      split at h
      · injection h with _ h; injection h with _ h; cases h
      · rename_i n3
        rw [stK] at h
        injection h with hv h
        injection h with hm _
        have d1 : isDig c1 = true := by cases hh : isDig c1 with | true => rfl | false => exact absurd (Or.inl hh) n1
        have d2 : isDig c2 = true := by cases hh : isDig c2 with | true => rfl | false => exact absurd (Or.inl hh) n2
        have d3 : isDig c3 = true := by cases hh : isDig c3 with | true => rfl | false => exact absurd (Or.inl hh) n3
        have h1 : 49 ≤ c1.toNat ∧ c1.toNat ≤ 53 := by
          by_cases e : 49 ≤ c1.toNat ∧ c1.toNat ≤ 53
          · exact e
          · exact absurd (Or.inr ⟨rfl, e⟩) n1
        exact ⟨d1, d2, d3, h1.1, h1.2, by rw [← hv]; rfl, hm.symm⟩
theorem stS_ok (S : List UInt8) (n m : Nat) (v : Int) (h : stS S (n, false) = (v, (m, false))) : S.drop n = Lib.itoa v ++ S.drop m ∧ 100 ≤ v ∧ v ≤ 599 := by
  unfold stS at h
  rw [if_neg nf] at h
  obtain ⟨q, hq⟩ : ∃ q, stK 3 (S.drop n) 0 0 = q := ⟨_, rfl⟩
  obtain ⟨x, k, b⟩ := q
  simp only [] at h
  rw [hq] at h
  injection h with hx h
  injection h with hk hb
  have hx : x = v := hx
  have hk : n + k = m := hk
  have hb : b = false := hb
  subst hx hk hb
  obtain ⟨R, hR⟩ : ∃ R, S.drop n = R := ⟨_, rfl⟩
  rw [hR] at hq
  match R, hR, hq with
  | [], _, hq => simp [stK] at hq
  | [c1], _, hq => simp only [stK] at hq; split at hq <;> simp at hq
  | [c1, c2], _, hq => simp only [stK] at hq; split at hq <;> (try split at hq) <;> simp at hq
  | c1 :: c2 :: c3 :: r, hR, hq =>
    obtain ⟨d1, d2, d3, l1, l2, e1, e2⟩ := stK_three c1 c2 c3 r x k hq
    have b2 := dg_bd d2
    have b3 := dg_bd d3
    have ev : valOf [c1, c2, c3] = 10 * (10 * (10 * 0 + dg c1) + dg c2) + dg c3 := rfl
    have l1' : 1 ≤ dg c1 ∧ dg c1 ≤ 5 := by unfold dg; omega
    refine ⟨?_, by rw [e1, ev]; omega, by rw [e1, ev]; omega⟩
    rw [e1, itoa_of (by simp [d1, d2, d3]) (by simp) (Or.inr (by
      rw [List.head?_cons]
      intro e
      injection e with e
      subst e
      exact absurd l1 (by decide))), e2, ← List.drop_drop, hR]
    rfl
end Go.Proofs.YtkenianfpfamcaaGreatDoor
namespace Go.Proofs.YtkenianfpfamcaaGreatDoor
open Go Go.RowKit
set_option maxHeartbeats 2000000

def isLet (c : UInt8) : Bool := decide ((65 ≤ c.toNat ∧ c.toNat ≤ 90) ∨ (97 ≤ c.toNat ∧ c.toNat ≤ 122))
theorem isletter_any (c : UInt8) (w : World) : Calls Tryz.prog 130 #[.int .u8 c.toNat] w fun e w' => e = .returned (.bool (isLet c)) ∧ w = w' := by
  obtain ⟨R, hR⟩ := name_it (isLet c)
  rw [hR.out]
  go_enter Tryz.func130, Tryz.ntmps130
  go_wp2
  all_goals go_ret
  all_goals exact ⟨ret_bool (by rw [← hR.out, Bool.eq_iff_iff]; simp [isLet]; omega), rfl⟩
def marksB : ByteArray := ⟨#[39, 40, 41, 43, 95, 44, 45, 46, 47, 58, 61, 63]⟩
def marksL : List UInt8 := [39, 40, 41, 43, 95, 44, 45, 46, 47, 58, 61, 63]
def specB (c : UInt8) : Bool := marksL.any (· == c)
def markB (c : UInt8) : Bool := (isLet c || isDig c) || specB c
def markI (c : UInt8) : Int := Lib.indexByte marksL c -- 212
theorem markI_all : ∀ p : Fin 256, decide (markI (UInt8.ofNat p.val) < 0) = !specB (UInt8.ofNat p.val) := by decide +kernel -- 212
theorem markI_of (c : UInt8) : decide (markI c < 0) = !specB c := by -- 212
  have h := markI_all ⟨c.toNat, UInt8.toNat_lt c⟩
  simpa using h
theorem index_marks (c : UInt8) (w : World) : Calls Tryz.prog 212 #[.string ⟨#[39, 40, 41, 43, 95, 44, 45, 46, 47, 58, 61, 63]⟩, .int .u8 (c.toNat : Int)] w fun e w' => e = .returned (.int .i64 (markI c)) ∧ w = w' := by
  refine (Tryz.strings_IndexByte marksB (c.toNat : Int) w).mono ?_
  rintro e w' ⟨rfl, rfl⟩
  refine ⟨ret_int ?_, rfl⟩
  unfold markI marksB marksL
  simp
def isMk (l : List UInt8) : Bool := l.all markB && decide (1 ≤ l.length ∧ l.length ≤ 70)
theorem letdig_cases (c : UInt8) : ((isLet c || isDig c) = true ∧ ((97 ≤ c.toNat ∧ c.toNat ≤ 122) ∨ (65 ≤ c.toNat ∧ c.toNat ≤ 90) ∨ (48 ≤ c.toNat ∧ c.toNat ≤ 57)))
    ∨ ((isLet c || isDig c) = false ∧ (c.toNat < 48 ∨ (57 < c.toNat ∧ c.toNat < 65) ∨ (90 < c.toNat ∧ c.toNat < 97) ∨ 122 < c.toNat)) := by
  cases h : (isLet c || isDig c)
  · refine Or.inr ⟨rfl, ?_⟩
    simp [isLet, isDig] at h
    omega
  · refine Or.inl ⟨rfl, ?_⟩
    simp [isLet, isDig] at h
    omega

end Go.Proofs.YtkenianfpfamcaaGreatDoor
namespace Go.Proofs.YtkenianfpfamcaaGreatDoor
open Go Go.RowKit

/-- an entry: its name, method, target, and its numbers -/
structure En where
  name : List UInt8
  meth : List UInt8
  tgt : List UInt8
  conn : Int
  numb : Int
  tick : Int
  stat : Int
  byts : Int
def nameB (c : UInt8) : Bool := (isLet c || isDig c) || (c == 45 || c == 95 || c == 46)
def signL : List UInt8 := [33, 35, 36, 37, 38, 39, 42, 43, 45, 46, 94, 95, 96, 124, 126]
def signB (c : UInt8) : Bool := (isDig c || isLet c) || signL.any (· == c)
def conL : List UInt8 := [32, 99, 111, 110, 110, 61]
def numbL : List UInt8 := [32, 110, 117, 109, 98, 101, 114, 61]
def tickL : List UInt8 := [32, 116, 105, 99, 107, 61]
def printL (e : En) : List UInt8 :=
  e.name ++ (conL ++ (Lib.itoa e.conn ++ (numbL ++ (Lib.itoa e.numb ++ (tickL ++ (Lib.itoa e.tick ++ ([32] ++ (e.meth ++ ([32] ++ (quoteL e.tgt ++ ([32] ++ (Lib.itoa e.stat ++ ([32] ++ Lib.itoa e.byts)))))))))))))
def rightE (e : En) : Bool :=
  decide (0 ≤ e.conn ∧ 0 ≤ e.numb ∧ 0 ≤ e.byts ∧ 0 ≤ e.tick ∧ 100 ≤ e.stat ∧ e.stat ≤ 599)
    && ((e.name.all nameB && decide (1 ≤ e.name.length ∧ e.name.length ≤ 64)) && ((e.meth.all signB && decide (1 ≤ e.meth.length ∧ e.meth.length ≤ 24)) && (e.tgt.all tgtB && decide (1 ≤ e.tgt.length ∧ e.tgt.length ≤ 65536))))
/-! What is read of a line, step by step. -/
def pA (S : List UInt8) : St := runS S nameB 64 (0, false)
def pB (S : List UInt8) : St := litS S conL (pA S)
def pC (S : List UInt8) : Int × St := numS S (pB S)
def pD (S : List UInt8) : St := litS S numbL (pC S).2
def pE (S : List UInt8) : Int × St := numS S (pD S)
def pF (S : List UInt8) : St := litS S tickL (pE S).2
def pG (S : List UInt8) : Int × St := numS S (pF S)
def pH (S : List UInt8) : St := litS S [32] (pG S).2
def pI (S : List UInt8) : St := runS S signB 24 (pH S)
def pJ (S : List UInt8) : St := litS S [32] (pI S)
def pK (S : List UInt8) : List UInt8 × St := tgtS S (pJ S)
def pL (S : List UInt8) : St := litS S [32] (pK S).2
def pM (S : List UInt8) : Int × St := stS S (pL S)
def pN (S : List UInt8) : St := litS S [32] (pM S).2
def pO (S : List UInt8) : Int × St := numS S (pN S)
def parsedE (S : List UInt8) : En := ⟨S.take (pA S).1, (S.drop (pH S).1).take ((pI S).1 - (pH S).1), (pK S).1, (pC S).1, (pE S).1, (pG S).1, (pM S).1, (pO S).1⟩
def parseEnd (S : List UInt8) : St := (pO S).2
def parsesB (S : List UInt8) : Bool := !(parseEnd S).2 && decide ((parseEnd S).1 = S.length)

theorem st_eta {st : St} (h : st.2 = false) : st = (st.1, false) := Prod.ext rfl h
theorem litS_step {S t : List UInt8} {st : St} (h : (litS S t st).2 = false) : st.2 = false ∧ S.drop st.1 = t ++ S.drop (litS S t st).1 := by
  have hb : st.2 = false := by
    cases hh : st.2
    · rfl
    · rw [show st = (st.1, true) from Prod.ext rfl hh, litS_bad] at h; cases h
  have e := st_eta h
  rw [st_eta hb] at e ⊢
  exact ⟨rfl, (litS_ok S t _ _ e).1⟩
theorem runS_step {S : List UInt8} {may : UInt8 → Bool} {mx : Nat} {st : St} (h : (runS S may mx st).2 = false) :
    st.2 = false ∧ ∃ x, S.drop st.1 = x ++ S.drop (runS S may mx st).1 ∧ x.all may = true ∧ 1 ≤ x.length ∧ x.length ≤ mx ∧ (S.drop st.1).take ((runS S may mx st).1 - st.1) = x := by
  have hb : st.2 = false := by
    cases hh : st.2
    · rfl
    · unfold runS at h; rw [if_pos hh, hh] at h; cases h
  have e := st_eta h
  rw [st_eta hb] at e ⊢
  obtain ⟨x, e1, e2, e3, e4, e5⟩ := runS_ok S may mx _ _ e
  refine ⟨rfl, x, e1, e2, e3, e4, ?_⟩
  rw [e1, show (runS S may mx (st.1, false)).1 - (st.1, false).1 = x.length by show _ - st.1 = _; omega, List.take_left]
theorem numS_step {S : List UInt8} {st : St} (h : (numS S st).2.2 = false) : st.2 = false ∧ S.drop st.1 = Lib.itoa (numS S st).1 ++ S.drop (numS S st).2.1 ∧ 0 ≤ (numS S st).1 ∧ (numS S st).1 ≤ mostI := by
  have hb : st.2 = false := by
    cases hh : st.2
    · rfl
    · unfold numS at h; rw [if_pos hh, hh] at h; cases h
  have e : numS S st = ((numS S st).1, ((numS S st).2.1, false)) := Prod.ext rfl (st_eta h)
  rw [st_eta hb] at e ⊢
  have := numS_ok S _ _ _ e
  exact ⟨rfl, this.1, this.2.1, this.2.2.1⟩
theorem tgtS_step {S : List UInt8} {st : St} (h : (tgtS S st).2.2 = false) : st.2 = false ∧ S.drop st.1 = quoteL (tgtS S st).1 ++ S.drop (tgtS S st).2.1 ∧ (tgtS S st).1.all tgtB = true ∧ 1 ≤ (tgtS S st).1.length ∧ (tgtS S st).1.length ≤ 65536 := by
  have hb : st.2 = false := by
    cases hh : st.2
    · rfl
    · unfold tgtS at h
      rw [show st = (st.1, true) from Prod.ext rfl hh, litS_bad] at h
      simp at h
  have e : tgtS S st = ((tgtS S st).1, ((tgtS S st).2.1, false)) := Prod.ext rfl (st_eta h)
  rw [st_eta hb] at e ⊢
  have := tgtS_ok S _ _ _ e
  exact ⟨rfl, this.1, this.2.1, this.2.2.1, this.2.2.2⟩
theorem stS_step {S : List UInt8} {st : St} (h : (stS S st).2.2 = false) : st.2 = false ∧ S.drop st.1 = Lib.itoa (stS S st).1 ++ S.drop (stS S st).2.1 ∧ 100 ≤ (stS S st).1 ∧ (stS S st).1 ≤ 599 := by
  have hb : st.2 = false := by
    cases hh : st.2
    · rfl
    · unfold stS at h; rw [if_pos hh, hh] at h; cases h
  have e : stS S st = ((stS S st).1, ((stS S st).2.1, false)) := Prod.ext rfl (st_eta h)
  rw [st_eta hb] at e ⊢
  have := stS_ok S _ _ _ e
  exact ⟨rfl, this.1, this.2.1, this.2.2⟩
/-- THE LAW: a line that says an entry is that entry's line, and the entry is right. -/
theorem parse_once (S : List UInt8) (h : (parseEnd S).2 = false) (hn : (parseEnd S).1 = S.length) : printL (parsedE S) = S ∧ rightE (parsedE S) = true := by
  obtain ⟨hN, eO, o1, o2⟩ := numS_step (st := pN S) h
  obtain ⟨hM, eN⟩ := litS_step (st := (pM S).2) hN
  obtain ⟨hL, eM, m1, m2⟩ := stS_step (st := pL S) hM
  obtain ⟨hK, eL⟩ := litS_step (st := (pK S).2) hL
  obtain ⟨hJ, eK, k1, k2, k3⟩ := tgtS_step (st := pJ S) hK
  obtain ⟨hI, eJ⟩ := litS_step (st := pI S) hJ
  obtain ⟨hH, xi, eI, i1, i2, i3, i4⟩ := runS_step (st := pH S) hI
  obtain ⟨hG, eH⟩ := litS_step (st := (pG S).2) hH
  obtain ⟨hF, eG, g1, g2⟩ := numS_step (st := pF S) hG
  obtain ⟨hE, eF⟩ := litS_step (st := (pE S).2) hF
  obtain ⟨hD, eE, e1, e2⟩ := numS_step (st := pD S) hE
  obtain ⟨hC, eD⟩ := litS_step (st := (pC S).2) hD
  obtain ⟨hB, eC, c1, c2⟩ := numS_step (st := pB S) hC
  obtain ⟨hA, eB⟩ := litS_step (st := pA S) hB
  obtain ⟨_, xa, eA, a1, a2, a3, a4⟩ := runS_step (st := (0, false)) hA
  have nA : (parsedE S).name = xa := a4
  have nI : (parsedE S).meth = xi := i4
  have hall : S.drop (parseEnd S).1 = [] := by rw [hn]; exact List.drop_of_length_le (Nat.le_refl _)
  constructor
  · unfold printL
    rw [nA, nI]
    have e0 : S = S.drop 0 := rfl
    conv => rhs; rw [e0]
    have fO : S.drop (pN S).1 = Lib.itoa (parsedE S).byts := by
      have := eO
      rw [show S.drop (numS S (pN S)).2.1 = [] from hall, List.append_nil] at this
      exact this
    have fN : S.drop (pM S).2.1 = [32] ++ S.drop (pN S).1 := eN
    have fM : S.drop (pL S).1 = Lib.itoa (parsedE S).stat ++ S.drop (pM S).2.1 := eM
    have fL : S.drop (pK S).2.1 = [32] ++ S.drop (pL S).1 := eL
    have fK : S.drop (pJ S).1 = quoteL (parsedE S).tgt ++ S.drop (pK S).2.1 := eK
    have fJ : S.drop (pI S).1 = [32] ++ S.drop (pJ S).1 := eJ
    have fI : S.drop (pH S).1 = xi ++ S.drop (pI S).1 := eI
    have fH : S.drop (pG S).2.1 = [32] ++ S.drop (pH S).1 := eH
    have fG : S.drop (pF S).1 = Lib.itoa (parsedE S).tick ++ S.drop (pG S).2.1 := eG
    have fF : S.drop (pE S).2.1 = tickL ++ S.drop (pF S).1 := eF
    have fE : S.drop (pD S).1 = Lib.itoa (parsedE S).numb ++ S.drop (pE S).2.1 := eE
    have fD : S.drop (pC S).2.1 = numbL ++ S.drop (pD S).1 := eD
    have fC : S.drop (pB S).1 = Lib.itoa (parsedE S).conn ++ S.drop (pC S).2.1 := eC
    have fB : S.drop (pA S).1 = conL ++ S.drop (pB S).1 := eB
    have fA : S.drop 0 = xa ++ S.drop (pA S).1 := eA
    rw [fA, fB, fC, fD, fE, fF, fG, fH, fI, fJ, fK, fL, fM, fN, fO]
  · unfold rightE
    rw [nA, nI, i1, a1, show (parsedE S).tgt.all tgtB = true from k1, decide_eq_true (show 1 ≤ xi.length ∧ xi.length ≤ 24 from ⟨i2, i3⟩), decide_eq_true (show 1 ≤ xa.length ∧ xa.length ≤ 64 from ⟨a2, a3⟩),
      decide_eq_true (show 1 ≤ (parsedE S).tgt.length ∧ (parsedE S).tgt.length ≤ 65536 from ⟨k2, k3⟩),
      decide_eq_true (show 0 ≤ (parsedE S).conn ∧ 0 ≤ (parsedE S).numb ∧ 0 ≤ (parsedE S).byts ∧ 0 ≤ (parsedE S).tick ∧ 100 ≤ (parsedE S).stat ∧ (parsedE S).stat ≤ 599 from ⟨c1, e1, o1, g1, m1, m2⟩)]
    rfl
end Go.Proofs.YtkenianfpfamcaaGreatDoor
namespace Go.Proofs.YtkenianfpfamcaaGreatDoor
open Go Go.RowKit
set_option maxHeartbeats 1000000

def isBl (c : UInt8) : Bool := decide (c.toNat = 32 ∨ c.toNat = 9)
def trimL (l : List UInt8) : List UInt8 := l.dropWhile isBl
def trimR (l : List UInt8) : List UInt8 := (l.reverse.dropWhile isBl).reverse
def trim (l : List UInt8) : List UInt8 := trimR (trimL l)
theorem trimR_snoc_bl (l : List UInt8) (c : UInt8) (h : isBl c = true) : trimR (l ++ [c]) = trimR l := by
  simp [trimR, h]
theorem trimR_snoc_no (l : List UInt8) (c : UInt8) (h : isBl c = false) : trimR (l ++ [c]) = l ++ [c] := by
  simp [trimR, h]
theorem trimL_cons_bl (l : List UInt8) (c : UInt8) (h : isBl c = true) : trimL (c :: l) = trimL l := by simp [trimL, h]
theorem trimL_cons_no (l : List UInt8) (c : UInt8) (h : isBl c = false) : trimL (c :: l) = c :: l := by simp [trimL, h]
theorem trimR_cons_no : ∀ (l : List UInt8) (c : UInt8), isBl c = false → trimR (c :: l) = c :: trimR l := by
  intro l c h
  refine snoc_ind (P := fun l => trimR (c :: l) = c :: trimR l) ?_ ?_ l
  · have : ([c] : List UInt8) = [] ++ [c] := rfl
    rw [this, trimR_snoc_no _ _ h]; simp [trimR]
  · intro l d ih
    cases hd : isBl d
    · rw [← List.cons_append, trimR_snoc_no _ _ hd, trimR_snoc_no _ _ hd]; rfl
    · rw [← List.cons_append, trimR_snoc_bl _ _ hd, trimR_snoc_bl _ _ hd, ih]
theorem trim_swap (l : List UInt8) : trimL (trimR l) = trimR (trimL l) := by
  induction l with
  | nil => rfl
  | cons c l ih =>
    cases hc : isBl c
    · rw [trimR_cons_no _ _ hc, trimL_cons_no _ _ hc, trimL_cons_no _ _ hc, trimR_cons_no _ _ hc]
    · rw [trimL_cons_bl _ _ hc, ← ih]
      -- the last of c :: l that is no blank
      by_cases hall : (l.all isBl) = true
      · have e1 : ∀ m : List UInt8, m.all isBl = true → trimR m = [] := by
          intro m hm
          refine (snoc_ind (P := fun m => m.all isBl = true → trimR m = []) ?_ ?_ m) hm
          · intro _; rfl
          · intro m d ih h
            simp only [List.all_append, Bool.and_eq_true, List.all_cons, List.all_nil, Bool.and_true] at h
            rw [trimR_snoc_bl _ _ h.2]; exact ih h.1
        rw [e1 (c :: l) (by simp [hc] at hall ⊢; exact hall), e1 l hall]
      · have e2 : ∀ m : List UInt8, ¬ (m.all isBl) = true → trimR (c :: m) = c :: trimR m := by
          intro m
          refine snoc_ind (P := fun m => ¬ (m.all isBl) = true → trimR (c :: m) = c :: trimR m) ?_ ?_ m
          · intro h; exact absurd rfl h
          · intro m d ih h
            cases hd : isBl d
            · rw [← List.cons_append, trimR_snoc_no _ _ hd, trimR_snoc_no _ _ hd]; rfl
            · rw [← List.cons_append, trimR_snoc_bl _ _ hd, trimR_snoc_bl _ _ hd]
              refine ih (fun h' => h ?_)
              simp only [List.all_append, h', hd, List.all_cons, List.all_nil, Bool.and_true]
        rw [e2 l hall, trimL_cons_bl _ _ hc]
theorem dropWhile_le (p : UInt8 → Bool) (l : List UInt8) : (l.dropWhile p).length ≤ l.length := by
  induction l with
  | nil => simp
  | cons c l ih => rw [List.dropWhile_cons]; split <;> simp <;> omega
theorem trim_le (l : List UInt8) : (trim l).length ≤ l.length := by
  unfold trim trimR trimL
  have h1 := dropWhile_le isBl (l.dropWhile isBl).reverse
  have h2 := dropWhile_le isBl l
  simp at h1 ⊢; omega

theorem strim_any (s : ByteArray) (w : World) (hs : s.size ≤ maxLen) :
    Calls Tryz.prog 43 #[.string s, .string ⟨#[32, 9]⟩] w fun e w' => e = .returned (.string (bs (trim (L s)))) ∧ Below w.heap.size w w' := by
  refine (Any.strings_Trim_laid Tryz.lays160 (by kernel_rfl) s ⟨#[32, 9]⟩ w hs (by decide) (ascii_of_all (by decide))).mono ?_
  rintro e w' ⟨rfl, hb⟩
  refine ⟨ret_str ?_, hb⟩
  show _ = bs _
  unfold trim
  rw [← trim_swap]
  have e : ∀ b : UInt8, ([32, 9] : List UInt8).contains b = isBl b := by
    intro b
    rw [Bool.eq_iff_iff]
    simp [isBl, ← UInt8.toNat_inj]
  unfold Lib.trimS Lib.trimLeftS Lib.trimRightS trimL trimR bs
  simp only [e, L]
theorem isblank_any (c : UInt8) (w : World) : Calls Tryz.prog 111 #[.int .u8 c.toNat] w fun e w' => e = .returned (.bool (isBl c)) ∧ w = w' := by
  obtain ⟨R, hR⟩ := name_it (isBl c)
  rw [hR.out]
  go_enter Tryz.func111, Tryz.ntmps111
  go_wp2
  all_goals go_ret
  all_goals exact ⟨ret_bool (by rw [← hR.out, Bool.eq_iff_iff]; (try simp only [beq_iff_eq] at *); simp [isBl]; omega), rfl⟩
theorem rtrim_any (s : ByteArray) (w : World) (hs : s.size ≤ maxLen) :
    Calls Tryz.prog 60 #[.string s] w fun e w' => e = .returned (.string (bs (trim (L s)))) ∧ w = w' := by
  unfold maxLen at hs
  obtain ⟨R, hR⟩ := name_it (trim (L s))
  rw [hR.out]
  go_enter Tryz.func60, Tryz.ntmps60
  go_wp2_with fail
  go_loop [0] (fun t => ∃ l : List UInt8, t = .string (bs l) ∧ l.length ≤ s.size ∧ Hid (trim l = R)) (fun t => strLen t)
  case atStart => exact ⟨L s, by rw [bs_L], by rw [L_length]; exact Nat.le_refl _, hR⟩
  case round =>
    obtain ⟨l, rfl, hl, hr⟩ := hrel
    cases l with
    | nil =>
      have h1 := bs_nil
      have h2 := bs_nil'
      have hr3 : Hid (trimR [] = R) := hr
      go_wp2_with fail
      go_loop [0] (fun t => ∃ l : List UInt8, t = .string (bs l) ∧ l.length ≤ s.size ∧ Hid (trimR l = R)) (fun t => strLen t)
      case atStart => exact ⟨[], rfl, hl, hr3⟩
      case round =>
        obtain ⟨m, rfl, hml, hr4⟩ := hrel
        rcases list_snoc m with rfl | ⟨m, d, rfl⟩
        · have g1 := bs_nil
          have g2 := bs_nil'
          go_wp2_with fail
          go_ret
          exact ⟨ret_str (by rw [← hr4.out]; rfl), rfl⟩
        · have g1 := bs_snoc_ne (c := d) (l := m)
          have g2 := bs_snoc_ne' (c := d) (l := m)
          have g3 := bs_snoc_size (c := d) (l := m)
          have g5 := bs_snoc_get (c := d) (l := m)
          have gx : Hid ((bs (m ++ [d])).extract 0 m.length = bs m) := by unfold Hid; rw [extract_head]; simp [L_bs]
          rw [List.length_append, List.length_singleton] at hml
          go_wp2_with fail
          refine (isblank_any d _).mono ?_; rintro e w' ⟨rfl, rfl⟩
          cases hd : isBl d
          · rw [trimR_snoc_no _ _ hd] at hr4
            have HC := Lib.hid hd; clear hd
            go_wp2_with fail
            go_ret
            exact ⟨ret_str (by rw [← hr4.out]), rfl⟩
          · rw [trimR_snoc_bl _ _ hd] at hr4
            have HC := Lib.hid hd; clear hd
            go_wp2_with fail
            go_round
            case rel => exact ⟨m, by rw [gx.out], by omega, hr4⟩
            case measure => rw [gx.out]; simp only [strLen, size_bs]; simp
    | cons c l =>
      have h1 := bs_ne (c := c) (l := l)
      have h2 := bs_ne' (c := c) (l := l)
      have h3 := bs_zero_size (c := c) (l := l)
      have h4 := bs_get0 (c := c) (l := l)
      have hx : Hid ((bs (c :: l)).extract 1 (bs (c :: l)).size = bs l) := by unfold Hid; rw [extract_tail]; rfl
      go_wp2_with fail
      refine (isblank_any c _).mono ?_; rintro e w' ⟨rfl, rfl⟩
      cases hc : isBl c
      · have hr3 : Hid (trimR (c :: l) = R) := by
          have := hr.out
          unfold trim at this; rw [trimL_cons_no _ _ hc] at this; exact this
        have HC := Lib.hid hc; clear hc hr
        go_wp2_with fail
        clear h1 h2 h3 h4
        go_loop [0] (fun t => ∃ l : List UInt8, t = .string (bs l) ∧ l.length ≤ s.size ∧ Hid (trimR l = R)) (fun t => strLen t)
        case atStart => exact ⟨c :: l, rfl, hl, hr3⟩
        case round =>
          obtain ⟨m, rfl, hml, hr4⟩ := hrel
          rcases list_snoc m with rfl | ⟨m, d, rfl⟩
          · have g1 := bs_nil
            have g2 := bs_nil'
            go_wp2_with fail
            go_ret
            exact ⟨ret_str (by rw [← hr4.out]; rfl), rfl⟩
          · have g1 := bs_snoc_ne (c := d) (l := m)
            have g2 := bs_snoc_ne' (c := d) (l := m)
            have g3 := bs_snoc_size (c := d) (l := m)
            have g5 := bs_snoc_get (c := d) (l := m)
            have gx : Hid ((bs (m ++ [d])).extract 0 m.length = bs m) := by unfold Hid; rw [extract_head]; simp [L_bs]
            rw [List.length_append, List.length_singleton] at hml
            go_wp2_with fail
            refine (isblank_any d _).mono ?_; rintro e w' ⟨rfl, rfl⟩
            cases hd : isBl d
            · rw [trimR_snoc_no _ _ hd] at hr4
              have HC := Lib.hid hd; clear hd
              go_wp2_with fail
              go_ret
              exact ⟨ret_str (by rw [← hr4.out]), rfl⟩
            · rw [trimR_snoc_bl _ _ hd] at hr4
              have HC := Lib.hid hd; clear hd
              go_wp2_with fail
              go_round
              case rel => exact ⟨m, by rw [gx.out], by omega, hr4⟩
              case measure => rw [gx.out]; simp only [strLen, size_bs]; simp
      · have hr3 : Hid (trim l = R) := by
          have := hr.out
          unfold trim at this ⊢; rw [trimL_cons_bl _ _ hc] at this; exact this
        have HC := Lib.hid hc; clear hc hr
        go_wp2_with fail
        go_round
        case rel => exact ⟨l, by rw [hx.out], by simp at hl; omega, hr3⟩
        case measure => rw [hx.out]; simp only [strLen, size_bs]; simp
end Go.Proofs.YtkenianfpfamcaaGreatDoor
namespace Go.Proofs.YtkenianfpfamcaaGreatDoor
open Go Go.RowKit

abbrev Ck := List UInt8 × List UInt8
/-- may a byte stand in a value -/
def inC (c : UInt8) : Bool := decide (33 ≤ c.toNat) && (decide (c.toNat ≤ 126) && (decide (c.toNat ≠ 34) && (decide (c.toNat ≠ 44) && (decide (c.toNat ≠ 59) && decide (c.toNat ≠ 92)))))
def quotedC (l : List UInt8) : Bool := decide (2 ≤ l.length) && (decide (l.head? = some 34) && decide (l.getLast? = some 34))
def unqC (l : List UInt8) : List UInt8 := if quotedC l = true then (l.take (l.length - 1)).drop 1 else l
def valC (l : List UInt8) : Bool := (unqC l).all inC
def tokC (l : List UInt8) : Bool := l.all signB && decide (l ≠ [])
def rightC (n v : List UInt8) : Bool := tokC n && (valC v && decide (n.length + v.length ≤ 4096))
/-- what stands ahead of the first such byte, and behind it -/
def cutC (c : UInt8) : List UInt8 → Option Ck
  | [] => none
  | d :: r => if d = c then some ([], r) else (cutC c r).map fun p => (d :: p.1, p.2)
/-- a text at each of a byte -/
def splitC (c : UInt8) : List UInt8 → List (List UInt8)
  | [] => [[]]
  | d :: r => if d = c then [] :: splitC c r else match splitC c r with | [] => [[d]] | p :: ps => (d :: p) :: ps
/-- the cookie that a piece says -/
def pairC (l : List UInt8) : Option Ck := match cutC 61 l with | none => none | some (a, b) => if rightC (trim a) (trim b) = true then some (trim a, trim b) else none
def piecesC (l : List UInt8) : List (List UInt8) := (splitC 59 l).filter fun p => decide (trim p ≠ [])
def parseC (l : List UInt8) : List Ck × Nat := ((piecesC l).filterMap pairC, ((piecesC l).filter fun p => (pairC p).isNone).length)
def eqC (c : Ck) : List UInt8 := c.1 ++ 61 :: c.2
def sentC (l : List Ck) : List UInt8 := Lib.join (l.map eqC) [59, 32]
theorem splitC_ne (c : UInt8) (l : List UInt8) : splitC c l ≠ [] := by
  cases l with
  | nil => intro h; cases h
  | cons d r =>
    unfold splitC
    split
    · intro h; cases h
    · split <;> (intro h; cases h)
theorem splitC_no {c : UInt8} : ∀ {x : List UInt8} (r : List UInt8), (∀ d ∈ x, d ≠ c) → splitC c (x ++ c :: r) = x :: splitC c r
  | [], r, _ => by
    show splitC c (c :: r) = _
    rw [splitC, if_pos rfl]
  | d :: x, r, h => by
    have ih := splitC_no (x := x) r (fun e he => h e (List.mem_cons_of_mem _ he))
    show splitC c (d :: (x ++ c :: r)) = _
    rw [splitC, if_neg (h d (List.mem_cons_self ..)), ih]
theorem splitC_end {c : UInt8} : ∀ {x : List UInt8}, (∀ d ∈ x, d ≠ c) → splitC c x = [x]
  | [], _ => rfl
  | d :: x, h => by
    have ih := splitC_end (x := x) (fun e he => h e (List.mem_cons_of_mem _ he))
    rw [splitC, if_neg (h d (List.mem_cons_self ..)), ih]
theorem cutC_no {c : UInt8} : ∀ {x : List UInt8} (r : List UInt8), (∀ d ∈ x, d ≠ c) → cutC c (x ++ c :: r) = some (x, r)
  | [], r, _ => by
    show cutC c (c :: r) = _
    rw [cutC, if_pos rfl]
  | d :: x, r, h => by
    have ih := cutC_no (x := x) r (fun e he => h e (List.mem_cons_of_mem _ he))
    show cutC c (d :: (x ++ c :: r)) = _
    rw [cutC, if_neg (h d (List.mem_cons_self ..)), ih]; rfl
theorem trim_id {l : List UInt8} (h : ∀ d ∈ l, isBl d = false) : trim l = l := by
  have hL : trimL l = l := by
    cases l with
    | nil => rfl
    | cons c r => exact trimL_cons_no _ _ (h c (List.mem_cons_self ..))
  unfold trim
  rw [hL]
  rcases list_snoc l with rfl | ⟨m, c, rfl⟩
  · rfl
  · exact trimR_snoc_no _ _ (h c (by simp))
theorem sign_bl : ∀ p : Fin 256, signB (UInt8.ofNat p.val) = true → isBl (UInt8.ofNat p.val) = false ∧ UInt8.ofNat p.val ≠ 61 ∧ UInt8.ofNat p.val ≠ 59 := by decide +kernel
theorem sign_no {c : UInt8} (h : signB c = true) : isBl c = false ∧ c ≠ 61 ∧ c ≠ 59 := by
  have := sign_bl ⟨c.toNat, c.toNat_lt⟩
  simpa using this (by simpa using h)
theorem inC_bl : ∀ p : Fin 256, inC (UInt8.ofNat p.val) = true → isBl (UInt8.ofNat p.val) = false ∧ UInt8.ofNat p.val ≠ 59 := by decide +kernel
theorem inC_no {c : UInt8} (h : inC c = true) : isBl c = false ∧ c ≠ 59 := by
  have := inC_bl ⟨c.toNat, c.toNat_lt⟩
  simpa using this (by simpa using h)
theorem valC_no {l : List UInt8} (h : valC l = true) : ∀ d ∈ l, isBl d = false ∧ d ≠ 59 := by
  unfold valC unqC at h
  split at h
  · rename_i hq
    unfold quotedC at hq
    simp only [Bool.and_eq_true, decide_eq_true_eq] at hq
    obtain ⟨h2, h3, h4⟩ := hq
    intro d hd
    rcases l with _ | ⟨a, r⟩
    · cases hd
    · simp only [List.head?_cons, Option.some.injEq] at h3
      subst h3
      rcases list_snoc r with rfl | ⟨m, b, rfl⟩
      · simp at h2
      · have e : ((34 : UInt8) :: (m ++ [b])).getLast? = some b := by rw [← List.cons_append, List.getLast?_concat]
        rw [e] at h4
        injection h4 with h4
        subst h4
        have e2 : (((34 : UInt8) :: (m ++ [34])).take (((34 : UInt8) :: (m ++ [34])).length - 1)).drop 1 = m := by
          simp
        rw [e2] at h
        rcases List.mem_cons.1 hd with rfl | hd
        · exact ⟨by decide, by decide⟩
        · rcases List.mem_append.1 hd with hd | hd
          · exact inC_no (List.all_eq_true.1 h d hd)
          · rw [List.mem_singleton] at hd; subst hd; exact ⟨by decide, by decide⟩
  · intro d hd
    exact inC_no (List.all_eq_true.1 h d hd)
theorem right_parts {n v : List UInt8} (h : rightC n v = true) : (∀ d ∈ n, isBl d = false ∧ d ≠ 61 ∧ d ≠ 59) ∧ n ≠ [] ∧ (∀ d ∈ v, isBl d = false ∧ d ≠ 59) := by
  unfold rightC tokC at h
  simp only [Bool.and_eq_true, decide_eq_true_eq] at h
  obtain ⟨⟨h1, h2⟩, h3, _⟩ := h
  exact ⟨fun d hd => sign_no (List.all_eq_true.1 h1 d hd), h2, valC_no h3⟩
theorem eqC_no {c : Ck} (h : rightC c.1 c.2 = true) : ∀ d ∈ eqC c, d ≠ 59 := by
  obtain ⟨h1, _, h3⟩ := right_parts h
  intro d hd
  unfold eqC at hd
  rcases List.mem_append.1 hd with hd | hd
  · exact (h1 d hd).2.2
  · rcases List.mem_cons.1 hd with rfl | hd
    · decide
    · exact (h3 d hd).2
theorem pairC_eq {c : Ck} (h : rightC c.1 c.2 = true) : pairC (eqC c) = some c ∧ pairC (32 :: eqC c) = some c := by
  obtain ⟨h1, _, h3⟩ := right_parts h
  have t1 : trim c.1 = c.1 := trim_id fun d hd => (h1 d hd).1
  have t2 : trim c.2 = c.2 := trim_id fun d hd => (h3 d hd).1
  have t3 : trim (32 :: c.1) = c.1 := by
    unfold trim
    rw [trimL_cons_bl _ _ (by decide)]
    exact t1
  unfold eqC pairC
  have e : (32 : UInt8) :: (c.1 ++ 61 :: c.2) = (32 :: c.1) ++ 61 :: c.2 := rfl
  rw [e, cutC_no _ (fun d hd => (h1 d hd).2.1), cutC_no _ (fun d hd => by
    rcases List.mem_cons.1 hd with rfl | hd
    · decide
    · exact (h1 d hd).2.1)]
  simp only [t1, t2, t3, h, if_true]
  exact ⟨trivial, trivial⟩
theorem trim_eqC {c : Ck} (h : rightC c.1 c.2 = true) : trim (eqC c) ≠ [] ∧ trim (32 :: eqC c) ≠ [] := by
  obtain ⟨h1, h2, h3⟩ := right_parts h
  have t : trim (eqC c) = eqC c := trim_id fun d hd => by
    unfold eqC at hd
    rcases List.mem_append.1 hd with hd | hd
    · exact (h1 d hd).1
    · rcases List.mem_cons.1 hd with rfl | hd
      · decide
      · exact (h3 d hd).1
  have hne : eqC c ≠ [] := by unfold eqC; simp
  refine ⟨by rw [t]; exact hne, ?_⟩
  have t2 : trim (32 :: eqC c) = trim (eqC c) := by
    unfold trim
    rw [trimL_cons_bl _ _ (by decide)]
  rw [t2, t]; exact hne
theorem split_sent : ∀ (l : List Ck) (c : Ck), rightC c.1 c.2 = true → (∀ x ∈ l, rightC x.1 x.2 = true) → splitC 59 (eqC c ++ Lib.joinTail [59, 32] (l.map eqC)) = eqC c :: l.map fun x => 32 :: eqC x
  | [], c, h, _ => by
    have e : Lib.joinTail [59, 32] (([] : List Ck).map eqC) = [] := rfl
    rw [e, List.append_nil, splitC_end (eqC_no h)]; rfl
  | x :: l, c, h, hl => by
    have e : Lib.joinTail [59, 32] ((x :: l).map eqC) = 59 :: (32 :: (eqC x ++ Lib.joinTail [59, 32] (l.map eqC))) := by
      unfold Lib.joinTail
      simp
    have hx := hl x (List.mem_cons_self ..)
    have ih := split_sent l x hx (fun y hy => hl y (List.mem_cons_of_mem _ hy))
    rw [e, splitC_no _ (eqC_no h), splitC, if_neg (by decide), ih]
    rfl
/-- THE LAW, plain: what is sent is read as itself. -/
theorem parse_sent (l : List Ck) (h : ∀ c ∈ l, rightC c.1 c.2 = true) : parseC (sentC l) = (l, 0) := by
  cases l with
  | nil => rfl
  | cons c r =>
    have hc := h c (List.mem_cons_self ..)
    have hr : ∀ x ∈ r, rightC x.1 x.2 = true := fun x hx => h x (List.mem_cons_of_mem _ hx)
    have hp : piecesC (sentC (c :: r)) = eqC c :: r.map fun x => 32 :: eqC x := by
      unfold piecesC sentC
      rw [List.map_cons, Lib.join_cons, split_sent r c hc hr]
      rw [List.filter_eq_self]
      intro p hp
      rcases List.mem_cons.1 hp with rfl | hp
      · exact decide_eq_true (trim_eqC hc).1
      · obtain ⟨x, hx, rfl⟩ := List.mem_map.1 hp
        exact decide_eq_true (trim_eqC (hr x hx)).2
    have hm : ∀ m : List Ck, (∀ x ∈ m, rightC x.1 x.2 = true) → (m.map fun x => 32 :: eqC x).filterMap pairC = m ∧ ((m.map fun x => 32 :: eqC x).filter fun p => (pairC p).isNone) = [] := by
      intro m
      induction m with
      | nil => intro _; exact ⟨rfl, rfl⟩
      | cons x m ih =>
        intro hm
        have hx := (pairC_eq (hm x (List.mem_cons_self ..))).2
        obtain ⟨i1, i2⟩ := ih fun y hy => hm y (List.mem_cons_of_mem _ hy)
        constructor
        · rw [List.map_cons, List.filterMap_cons, hx, i1]
        · rw [List.map_cons, List.filter_cons, hx, i2]; rfl
    obtain ⟨m1, m2⟩ := hm r hr
    unfold parseC
    rw [hp, List.filterMap_cons, List.filter_cons, (pairC_eq hc).1, m1, m2]
    rfl
end Go.Proofs.YtkenianfpfamcaaGreatDoor
namespace Go.Proofs.YtkenianfpfamcaaGreatDoor
open Go Go.RowKit
set_option maxHeartbeats 4000000

theorem inC_iff (c : UInt8) : inC c = true ↔ (33 ≤ c.toNat ∧ c.toNat ≤ 126 ∧ c.toNat ≠ 34 ∧ c.toNat ≠ 44 ∧ c.toNat ≠ 59 ∧ c.toNat ≠ 92) := by
  unfold inC
  simp only [Bool.and_eq_true, decide_eq_true_eq]
set_option maxRecDepth 100000 in
theorem plain_any (s : ByteArray) (w : World) (hs : s.size ≤ maxLen) : Calls Tryz.prog 126 #[.string s] w fun e w' => e = .returned (.bool ((L s).all inC)) ∧ w = w' := by
  unfold maxLen at hs
  obtain ⟨R, hR⟩ := name_it ((L s).all inC)
  rw [hR.out]
  go_enter Tryz.func126, Tryz.ntmps126
  go_wp2_with fail
  go_loop [3, 4, 7] (fun _ _ i => ∃ k : Nat, k ≤ s.size ∧ i = .int .i64 k ∧ Hid (((L s).drop k).all inC = R)) (fun _ _ i => s.size - (intOf i).toNat)
  case atStart => exact ⟨0, Nat.zero_le _, rfl, hR⟩
  case round =>
    obtain ⟨k, hk, rfl, hr⟩ := hrel
    by_cases hlt : k < s.size
    · have hi := inC_iff s[k]
      cases hb : inC s[k]
      · have hr2 := hr.out
        rw [L_drop hlt, List.all_cons, hb] at hr2
        rw [hb] at hi
        have HI : Hid (¬ (33 ≤ s[k].toNat ∧ s[k].toNat ≤ 126 ∧ s[k].toNat ≠ 34 ∧ s[k].toNat ≠ 44 ∧ s[k].toNat ≠ 59 ∧ s[k].toNat ≠ 92)) := fun h => by have := hi.2 h; cases this
        have HR := Lib.hid hr2; clear hr2 hr hi hb
        go_wp2_with fail
        all_goals (try (exfalso; have := HI.out; (try simp only [beq_eq_false_iff_ne, ne_eq] at *); omega))
        all_goals
          go_ret
          exact ⟨ret_bool (by rw [← HR.out]; rfl), rfl⟩
      · have hr2 := hr.out
        rw [L_drop hlt, List.all_cons, hb] at hr2
        obtain ⟨i1, i2, i3, i4, i5, i6⟩ := hi.1 hb
        have HR := Lib.hid hr2; clear hr2 hr hi hb
        go_wp2_with fail
        all_goals (try (exfalso; omega))
        go_round
        case rel => exact ⟨k + 1, by omega, by go_num, Lib.hid (by have h := HR.out; simpa using h)⟩
        case measure => simp [intOf]; omega
    · obtain rfl : k = s.size := by omega
      rw [L_drop_all] at hr
      go_wp2_with fail
      go_ret
      exact ⟨ret_bool (by rw [← hr.out]; rfl), rfl⟩
theorem quoted_iff (s : ByteArray) (h : 1 < s.size) : quotedC (L s) = true ↔ (s[0].toNat = 34 ∧ s[s.size - 1].toNat = 34) := by
  have hl : (L s).length = s.size := L_length s
  have h1 : (L s).head? = some s[0] := by
    have := L_drop (s := s) (k := 0) (by omega)
    rw [List.drop_zero] at this
    rw [this]; rfl
  have h2 : (L s).getLast? = some s[s.size - 1] := by
    rw [List.getLast?_eq_getElem?, hl]
    have := L_drop (s := s) (k := s.size - 1) (by omega)
    have e : (L s)[s.size - 1]? = ((L s).drop (s.size - 1)).head? := by rw [List.head?_drop]
    rw [e, this]; rfl
  unfold quotedC
  rw [h1, h2, hl]
  simp only [Bool.and_eq_true, decide_eq_true_eq, Option.some.injEq, ← UInt8.toNat_inj]
  constructor
  · rintro ⟨_, a, b⟩; exact ⟨a, b⟩
  · rintro ⟨a, b⟩; exact ⟨h, a, b⟩
set_option maxRecDepth 100000 in
theorem isvalue_any (s : ByteArray) (w : World) (hs : s.size ≤ maxLen) : Calls Tryz.prog 80 #[.string s] w fun e w' => e = .returned (.bool (valC (L s))) ∧ w = w' := by
  unfold maxLen at hs
  obtain ⟨R, hR⟩ := name_it (valC (L s))
  rw [hR.out]
  have hp := fun (t : ByteArray) (ht : t.size ≤ 9223372036854775807) => plain_any t w (by unfold maxLen; omega)
  have HP := Lib.hid hp
  clear hp
  by_cases hqq : ∃ h1 : 1 < s.size, s[0].toNat = 34 ∧ s[s.size - 1].toNat = 34
  · obtain ⟨h1, q0, q1⟩ := hqq
    have HV : Hid ((L (s.extract 1 (s.size - 1))).all inC = R) := by
      rw [← hR.out]; unfold Hid valC unqC
      rw [if_pos ((quoted_iff s h1).2 ⟨q0, q1⟩), L_length, extract_bs, L_bs]
    have hz : (s.extract 1 (s.size - 1)).size ≤ 9223372036854775807 := by rw [extract_bs, size_bs, List.length_drop, List.length_take, L_length]; omega
    have HZ := Lib.hid hz
    clear hR hz
    go_enter Tryz.func80, Tryz.ntmps80
    go_wp2_with fail
    all_goals (try (exfalso; omega))
    refine (HP.out _ HZ.out).mono ?_; rintro e w' ⟨rfl, rfl⟩
    go_wp2_with fail
    go_ret
    exact ⟨ret_bool HV.out, rfl⟩
  · have HV : Hid ((L s).all inC = R) := by
      rw [← hR.out]; unfold Hid valC unqC
      rw [if_neg]
      intro hq
      have h1 : 1 < s.size := by
        unfold quotedC at hq
        rw [Bool.and_eq_true, decide_eq_true_eq, L_length] at hq
        exact hq.1
      exact hqq ⟨h1, (quoted_iff s h1).1 hq⟩
    have HN : Hid (∀ h1 : 1 < s.size, ¬ (s[0].toNat = 34 ∧ s[s.size - 1].toNat = 34)) := fun h1 h => hqq ⟨h1, h⟩
    clear hR hqq
    go_enter Tryz.func80, Tryz.ntmps80
    go_wp2_with fail
    all_goals (try (exfalso; have := HN.out (by omega); (try simp only [beq_eq_false_iff_ne, beq_iff_eq, ne_eq] at *); omega))
    all_goals
      refine (HP.out _ (by omega)).mono ?_; rintro e w' ⟨rfl, rfl⟩
      go_wp2_with fail
      go_ret
      exact ⟨ret_bool HV.out, rfl⟩
end Go.Proofs.YtkenianfpfamcaaGreatDoor
namespace Go.Proofs.YtkenianfpfamcaaGreatDoor
open Go Go.RowKit
set_option maxHeartbeats 4000000

def signsT : List Nat := [0, 67071226, 3355443198, 1476395007]
/-- what the program's variable holds -/
structure EnvT (w : World) : Prop where
  n : 9 ≤ w.heap.size
  sg : ∀ j, j < 4 → w.cell? ⟨2, j, none⟩ = some (.int .u32 ((signsT.getD j 0 : Nat) : Int))
theorem EnvT.next {w w' : World} (h : EnvT w) (hb : Below w.heap.size w w') : EnvT w' where
  n := Nat.le_trans h.n hb.size
  sg j hj := by rw [hb.cell (p := ⟨2, j, none⟩) (Nat.lt_of_lt_of_le (by show 2 < 9; decide) h.n)]; exact h.sg j hj

theorem signs_low : ∀ p : Fin 128, (bits BinOp.and IntKind.u32 (((signsT.getD (p.val / 32) 0 : Nat) : Int) / 2 ^ (p.val % 32)) 1 == 1) = signB (UInt8.ofNat p.val) := by decide +kernel
theorem signs_high : ∀ p : Fin 256, 128 ≤ p.val → signB (UInt8.ofNat p.val) = false := by decide +kernel

set_option maxRecDepth 100000 in
theorem osign_any (c : UInt8) (w : World) (hE : EnvT w) : Calls Tryz.prog 125 #[.int .u8 c.toNat] w fun e w' => e = .returned (.bool (signB c)) ∧ w = w' := by
  obtain ⟨R, hR⟩ := name_it (signB c)
  rw [hR.out]
  by_cases h : c.toNat < 128
  · have hc := hE.sg (c.toNat / 32) (by omega)
    obtain ⟨T, hT⟩ := name_it ((signsT.getD (c.toNat / 32) 0 : Nat) : Int)
    rw [hT.out] at hc
    have q0 : (0 : Int) ≤ (c.toNat : Int) := by omega
    have q1 : (c.toNat : Int) < 128 := by omega
    go_enter Tryz.func125, Tryz.ntmps125
    go_wp2_with fail
    all_goals (try (exfalso; omega))
    go_ret
    refine ⟨ret_bool ?_, rfl⟩
    rw [← hT.out, ← hR.out]
    have := signs_low ⟨c.toNat, h⟩
    rw [show UInt8.ofNat (Fin.val (⟨c.toNat, h⟩ : Fin 128)) = c from UInt8.ofNat_toNat] at this
    exact this
  · have hf : Hid (R = false) := by
      have := signs_high ⟨c.toNat, c.toNat_lt⟩ (by show 128 ≤ c.toNat; omega)
      rw [show UInt8.ofNat (Fin.val (⟨c.toNat, c.toNat_lt⟩ : Fin 256)) = c from UInt8.ofNat_toNat] at this
      rw [← hR.out]; exact this
    clear hR
    go_enter Tryz.func125, Tryz.ntmps125
    go_wp2_with fail
    all_goals (try (exfalso; omega))
    go_ret
    exact ⟨ret_bool hf.out.symm, rfl⟩

set_option maxRecDepth 100000 in
theorem istoken_any (s : ByteArray) (w : World) (hE : EnvT w) (hs : s.size ≤ 1073741824) : Calls Tryz.prog 79 #[.string s] w fun e w' => e = .returned (.bool ((L s).all signB && decide (L s ≠ []))) ∧ w = w' := by
  obtain ⟨R, hR⟩ := name_it ((L s).all signB && decide (L s ≠ []))
  rw [hR.out]
  have HS := Lib.hid (fun c => osign_any c w hE)
  obtain ⟨A, hA⟩ := name_it ((L s).all signB)
  rw [hA.out] at hR
  go_enter Tryz.func79, Tryz.ntmps79
  go_wp2_with fail
  go_loop [3, 6] (fun _ i => ∃ k : Nat, k ≤ s.size ∧ i = .int .i64 k ∧ Hid (((L s).drop k).all signB = A)) (fun _ i => s.size - (intOf i).toNat)
  case atStart => exact ⟨0, Nat.zero_le _, rfl, hA⟩
  case round =>
    obtain ⟨k, hk, rfl, hr⟩ := hrel
    by_cases hlt : k < s.size
    · cases hb : signB s[k]
      · have hr2 := hr.out
        rw [L_drop hlt, List.all_cons, hb] at hr2
        have hf : Hid (R = false) := by rw [← hR.out, ← hr2]; rfl
        have HK := Lib.hid (HS.out s[k])
        rw [hb] at HK
        clear hr2 hr
        go_wp2_with (go_at_call 125; refine HK.out.mono ?_; rintro e w' ⟨rfl, rfl⟩)
        go_ret
        exact ⟨ret_bool hf.out.symm, rfl⟩
      · have hr2 := hr.out
        rw [L_drop hlt, List.all_cons, hb] at hr2
        have HR := Lib.hid hr2
        have HK := Lib.hid (HS.out s[k])
        rw [hb] at HK
        clear hr2 hr
        go_wp2_with (go_at_call 125; refine HK.out.mono ?_; rintro e w' ⟨rfl, rfl⟩)
        go_round
        case rel => exact ⟨k + 1, by omega, by go_num, Lib.hid (by have h := HR.out; simpa using h)⟩
        case measure => simp [intOf]; omega
    · obtain rfl : k = s.size := by omega
      rw [L_drop_all] at hr
      have hA2 : Hid (A = true) := hr.out.symm
      have hR2 : Hid (R = decide (L s ≠ [])) := by rw [← hR.out, hA2.out]; unfold Hid; rw [Bool.true_and]
      clear hr
      go_wp2_with fail
      go_ret
      exact ⟨ret_bool (by rw [hR2.out]; (try simp only []); simp; exact str_empty s), rfl⟩
end Go.Proofs.YtkenianfpfamcaaGreatDoor
namespace Go.Proofs.YtkenianfpfamcaaGreatDoor
open Go Go.RowKit
set_option maxHeartbeats 4000000

set_option maxRecDepth 100000 in
theorem right_any (n v : ByteArray) (w : World) (hE : EnvT w) (hn : n.size ≤ 1073741824) (hv : v.size ≤ 1073741824) : Calls Tryz.prog 38 #[.string n, .string v] w fun e w' => e = .returned (.bool (rightC (L n) (L v))) ∧ w = w' := by
  obtain ⟨R, hR⟩ := name_it (rightC (L n) (L v))
  rw [hR.out]
  have hr := hR.out
  have h1 := istoken_any n w hE hn
  have h2 := isvalue_any v w (by unfold maxLen; omega)
  unfold rightC at hr
  rw [L_length, L_length] at hr
  change (tokC (L n) && _) = R at hr
  change Calls Tryz.prog 79 #[.string n] w fun e w' => e = .returned (.bool (tokC (L n))) ∧ w = w' at h1
  clear hR
  cases ht : tokC (L n) with
  | false =>
    rw [ht] at h1 hr
    have H1 := Lib.hid h1
    have HR := Lib.hid hr
    clear h1 h2 hr ht
    go_enter Tryz.func38, Tryz.ntmps38
    go_wp2_with (go_at_call 79; refine H1.out.mono ?_; rintro e w' ⟨rfl, rfl⟩)
    go_ret
    exact ⟨ret_bool HR.out, rfl⟩
  | true =>
    rw [ht] at h1 hr
    cases hvv : valC (L v) with
    | false =>
      rw [hvv] at h2 hr
      have H1 := Lib.hid h1
      have H2 := Lib.hid h2
      have HR := Lib.hid hr
      clear h1 h2 hr ht hvv
      go_enter Tryz.func38, Tryz.ntmps38
      go_wp2_with (first | (go_at_call 79; refine H1.out.mono ?_; rintro e w' ⟨rfl, rfl⟩) | (go_at_call 80; refine H2.out.mono ?_; rintro e w' ⟨rfl, rfl⟩))
      go_ret
      exact ⟨ret_bool HR.out, rfl⟩
    | true =>
      rw [hvv] at h2 hr
      have H1 := Lib.hid h1
      have H2 := Lib.hid h2
      have HR : Hid (decide ((n.size : Int) + v.size ≤ 4096) = R) := by
        rw [← hr]; unfold Hid
        rw [Bool.eq_iff_iff]; simp; omega
      clear h1 h2 hr ht hvv
      go_enter Tryz.func38, Tryz.ntmps38
      go_wp2_with (first | (go_at_call 79; refine H1.out.mono ?_; rintro e w' ⟨rfl, rfl⟩) | (go_at_call 80; refine H2.out.mono ?_; rintro e w' ⟨rfl, rfl⟩))
      all_goals (try (exfalso; omega))
      go_ret
      exact ⟨ret_bool HR.out, rfl⟩
end Go.Proofs.YtkenianfpfamcaaGreatDoor
namespace Go.Proofs.YtkenianfpfamcaaGreatDoor
open Go Go.RowKit

theorem lindex_cons_eq (c : UInt8) (l : List UInt8) : Lib.index (c :: l) [c] = 0 := by rw [Lib.index]; simp [List.isPrefixOf]
theorem lindex_cons_ne {c d : UInt8} (l : List UInt8) (h : d ≠ c) : Lib.index (d :: l) [c] = if Lib.index l [c] == -1 then -1 else Lib.index l [c] + 1 := by
  have hp : ([c] : List UInt8).isPrefixOf (d :: l) = false := by simp [List.isPrefixOf, Ne.symm h]
  rw [Lib.index, hp]; simp
/-- where a byte stands first -/
theorem cutC_index (c : UInt8) : ∀ l : List UInt8, (cutC c l = none ∧ Lib.index l [c] = -1) ∨ (∃ a b, cutC c l = some (a, b) ∧ Lib.index l [c] = (a.length : Int) ∧ l = a ++ c :: b)
  | [] => Or.inl ⟨rfl, rfl⟩
  | d :: l => by
    by_cases h : d = c
    · subst h
      exact Or.inr ⟨[], l, by rw [cutC, if_pos rfl], lindex_cons_eq d l, rfl⟩
    · rcases cutC_index c l with ⟨h1, h2⟩ | ⟨a, b, h1, h2, h3⟩
      · exact Or.inl ⟨by rw [cutC, if_neg h, h1]; rfl, by rw [lindex_cons_ne l h, h2]; rfl⟩
      · refine Or.inr ⟨d :: a, b, by rw [cutC, if_neg h, h1]; rfl, ?_, by rw [h3]; rfl⟩
        rw [lindex_cons_ne l h, h2, if_neg (by simp; done), List.length_cons]; omega
/-- what stands ahead of the first such byte, and behind it; without one: all -/
def halvesG (c : UInt8) (l : List UInt8) : Ck := (cutC c l).getD (l, [])
theorem lib_cutC (c : UInt8) (l : List UInt8) : Lib.cut l [c] = ((halvesG c l).1, (halvesG c l).2, (cutC c l).isSome) := by
  unfold Lib.cut halvesG
  rcases cutC_index c l with ⟨h1, h2⟩ | ⟨a, b, h1, h2, h3⟩
  · rw [h1, h2]; rfl
  · rw [h1, h2, if_pos (by omega)]
    have e : ((a.length : Int)).toNat = a.length := by omega
    rw [e, h3, List.take_left]
    have e2 : a ++ c :: b = (a ++ [c]) ++ b := by simp
    have e3 : a.length + [c].length = (a ++ [c]).length := by simp
    rw [e2, e3, List.drop_left]; rfl
theorem splitK_C (c : UInt8) : ∀ l : List UInt8, Lib.splitK [c] 0 (Lib.count l [c]) l = splitC c l
  | [] => by rw [Lib.count_miss (by simp [Lib.index])]; rfl
  | d :: l => by
    have ih := splitK_C c l
    by_cases h : d = c
    · subst h
      rw [Lib.count_cons_eq, Nat.add_comm, Lib.splitK, lindex_cons_eq, splitC, if_pos rfl]
      rw [if_neg (by decide)]
      show List.take 0 _ :: Lib.splitK [d] 0 _ l = _
      rw [ih]; rfl
    · rw [Lib.count_cons_ne _ _ _ h, splitC, if_neg h, ← ih]
      rcases cutC_index c l with ⟨h1, h2⟩ | ⟨a, b, h1, h2, h3⟩
      · rw [Lib.count_miss h2]; rfl
      · rw [Lib.count_hit (by simp) h2, Nat.add_comm 1, Lib.splitK, Lib.splitK, lindex_cons_ne l h, h2]
        have q1 : ((a.length : Int) == -1) = false := by simp
        have q2 : ((a.length : Int) + 1 == -1) = false := by simp; omega
        rw [q1]
        simp only [Bool.false_eq_true, if_false]
        rw [q2]
        simp only [Bool.false_eq_true, if_false]
        have e1 : ((a.length : Int)).toNat = a.length := by omega
        have e2 : ((a.length : Int) + 1).toNat = a.length + 1 := by omega
        rw [e1, e2]
        rfl
theorem splitC_length (c : UInt8) (l : List UInt8) : (splitC c l).length ≤ l.length + 1 := by
  induction l with
  | nil => exact Nat.le_refl _
  | cons d l ih =>
    rw [splitC]
    split
    · rw [List.length_cons, List.length_cons]; omega
    · cases h : splitC c l with
      | nil => simp
      | cons p ps => rw [h] at ih; simp at ih ⊢; omega
theorem splitC_each (c : UInt8) : ∀ (l : List UInt8), ∀ p ∈ splitC c l, p.length ≤ l.length
  | [], p, h => by
    rw [splitC, List.mem_singleton] at h
    rw [h]; exact Nat.le_refl _
  | d :: l, p, h => by
    have ih := splitC_each c l
    rw [splitC] at h
    split at h
    · rcases List.mem_cons.1 h with rfl | h
      · exact Nat.zero_le _
      · have := ih p h; rw [List.length_cons]; omega
    · cases hs : splitC c l with
      | nil => rw [hs] at h; rw [List.mem_singleton] at h; rw [h]; simp
      | cons q qs =>
        rw [hs] at h ih
        rcases List.mem_cons.1 h with rfl | h
        · have := ih q (List.mem_cons_self ..); rw [List.length_cons, List.length_cons]; omega
        · have := ih p (List.mem_cons_of_mem _ h); rw [List.length_cons]; omega
/-- the library's pieces -/
theorem splitB_C (s : ByteArray) (c : UInt8) : Lib.splitB ⟨#[c]⟩ 0 (Lib.countB s ⟨#[c]⟩) s = (splitC c (L s)).map bs := by
  have h := Lib.splitB_data ⟨#[c]⟩ 0 (Lib.countB s ⟨#[c]⟩) s
  have h2 : Lib.splitK (⟨#[c]⟩ : ByteArray).data.toList 0 (Lib.countB s ⟨#[c]⟩) s.data.toList = splitC c (L s) := splitK_C c (L s)
  rw [h2] at h
  rw [← h, List.map_map]
  have : (bs ∘ fun x : ByteArray => x.data.toList) = id := by funext x; exact bs_L x
  rw [this, List.map_id]
theorem countB_C (s : ByteArray) (c : UInt8) : Lib.countB s ⟨#[c]⟩ + 1 = (splitC c (L s)).length := by
  have h := Lib.splitB_all ⟨#[c]⟩ (by show 1 ≤ 1; exact Nat.le_refl _) 0 _ s rfl
  rw [splitB_C, List.length_map] at h
  exact h.symm
theorem halves_le (c : UInt8) (l : List UInt8) : (halvesG c l).1.length ≤ l.length ∧ (halvesG c l).2.length ≤ l.length := by
  unfold halvesG
  rcases cutC_index c l with ⟨h1, _⟩ | ⟨a, b, h1, _, h3⟩
  · rw [h1]; exact ⟨Nat.le_refl _, Nat.zero_le _⟩
  · rw [h1, h3]; simp; omega
end Go.Proofs.YtkenianfpfamcaaGreatDoor
