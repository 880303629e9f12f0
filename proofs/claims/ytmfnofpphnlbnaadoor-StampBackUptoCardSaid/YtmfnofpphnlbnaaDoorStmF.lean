/- There and back; unlike texts say unlike moments: in plain Lean. No program in sight. -/
import Derived.Test.YtmfnofpphnlbnaaDoorStmE
namespace Go.Proofs.YtmfnofpphnlbnaaDoor.Stm
open Go.Proofs.YtmfnofpphnlbnaaDoor

theorem daysOf_date {y m d : Int} (h : Cal.daysOk y m d = true) : Cal.IsDate (Cal.daysOf y m d + 719162) y m d := by
  unfold Cal.daysOk at h
  rw [decide_eq_true_eq] at h
  obtain ⟨a, b, c, e⟩ := h
  obtain ⟨m1, m2⟩ := Cal.mdays_in y m (by omega)
  exact ⟨m1, m2, c, e, by unfold Cal.daysOf; omega⟩
theorem days_inj {y m d y' m' d' : Int} (h : Cal.daysOk y m d = true) (h' : Cal.daysOk y' m' d' = true) (e : Cal.daysOf y m d = Cal.daysOf y' m' d') : y = y' ∧ m = m' ∧ d = d' :=
  Cal.isDate_unique (daysOf_date h) (by rw [e]; exact daysOf_date h')
theorem ok_of_date {n y m d : Int} (h : Cal.IsDate n y m d) (y0 : 1 ≤ y) (y1 : y ≤ 9999) : Cal.daysOk y m d = true ∧ Cal.daysOf y m d = n - 719162 := by
  obtain ⟨a, b, c, e, f⟩ := h
  exact ⟨by unfold Cal.daysOk; exact decide_eq_true ⟨y0, y1, c, e⟩, by unfold Cal.daysOf; omega⟩

/-- the text of a date in a form (as it is written) is read as that date -/
theorem back_date {n r y mo d nY : Int} {form : Nat} (hf : form < 3) (hd : Cal.IsDate n y mo d) (y0 : 1 ≤ y) (y1 : y ≤ 9999) (r0 : 0 ≤ r) (r1 : r < 86400) (hm : (n - 719162) * 86400 + r ≤ 253402300799) :
    ((form ≠ 1 ∨ (nY - 49 ≤ y ∧ y ≤ nY + 50)) → parseP (txt form (n % 7).toNat (mo - 1).toNat (if form = 2 ∧ d < 10 then [32, UInt8.ofNat (48 + d.toNat)] else d2 d) (if form = 1 then y % 100 else y) (r / 3600) (r / 60 % 60) (r % 60)) true nY = ⟨(n - 719162) * 86400 + r, form, 0, 0⟩) ∧
    (form = 1 → ¬ (nY - 49 ≤ y ∧ y ≤ nY + 50) → ∀ q, parseP (txt form (n % 7).toNat (mo - 1).toNat (if form = 2 ∧ d < 10 then [32, UInt8.ofNat (48 + d.toNat)] else d2 d) (if form = 1 then y % 100 else y) (r / 3600) (r / 60 % 60) (r % 60)) true nY = q → q.e ≠ 0 ∨ q.m ≠ (n - 719162) * 86400 + r) := by
  have hok := ok_of_date hd y0 y1
  have hmd := Cal.mdays_lo y mo
  obtain ⟨m1, m2, d1, d2', _⟩ := hd
  obtain ⟨st, hc, hp⟩ := parse_txt (form := form) (wd := (n % 7).toNat) (mo := (mo - 1).toNat) (k := ⟨n % 7, mo, d, if form = 1 then y % 100 else y, r / 3600, r / 60 % 60, r % 60⟩)
    (dt := if form = 2 ∧ d < 10 then [32, UInt8.ofNat (48 + d.toNat)] else d2 d) nY hf
    ⟨by show n % 7 = ((n % 7).toNat : Int); omega, by show mo = ((mo - 1).toNat : Int) + 1; omega, by omega, by omega, by show 0 ≤ d; omega, by show d ≤ 99; omega,
      by show 0 ≤ (if form = 1 then y % 100 else y); split <;> omega, by show (if form = 1 then y % 100 else y) ≤ yTop form; unfold yTop; split <;> omega,
      by show 0 ≤ r / 3600; omega, by show r / 3600 ≤ 99; omega, by show 0 ≤ r / 60 % 60; omega, by show r / 60 % 60 ≤ 99; omega, by show 0 ≤ r % 60; omega, by show r % 60 ≤ 99; omega⟩
    (by show DtOk form d _
        unfold DtOk
        by_cases h : form = 2 ∧ d < 10
        · rw [if_pos h]; exact Or.inr ⟨h.1, by omega, rfl⟩
        · rw [if_neg h]; exact Or.inl rfl)
  obtain ⟨at_, wd, mo', dy, yr, hh, mi, ss, a1, a2, a3, a4, a5⟩ := st
  unfold core at hc
  simp only [Co.mk.injEq] at hc
  obtain ⟨rfl, rfl, rfl, rfl, rfl, rfl, rfl⟩ := hc
  dsimp only at hp
  rw [hp]
  constructor
  · intro h
    have hy : (if form = 1 then nearY (if form = 1 then y % 100 else y) (nY - 49) else (if form = 1 then y % 100 else y)) = y := by
      by_cases h1 : form = 1
      · rw [if_pos h1, if_pos h1]
        have := nearY_bd (y % 100) (nY - 49)
        rcases h with h | h
        · exact absurd h1 h
        · omega
      · rw [if_neg h1, if_neg h1]
    unfold momentOf
    simp only [hy]
    rw [if_neg (by omega), if_neg (by rw [hok.1]; decide), if_neg (by omega), if_neg (by omega), if_neg (by omega), hok.2, if_neg (by simp; omega), if_neg (by omega)]
    congr 1
    omega
  · intro h1 hn q hq
    subst h1
    obtain ⟨y', hy'⟩ : ∃ y', y' = nearY (if (1 : Nat) = 1 then y % 100 else y) (nY - 49) := ⟨_, rfl⟩
    have hb := nearY_bd (if (1 : Nat) = 1 then y % 100 else y) (nY - 49)
    rw [← hy'] at hb
    unfold momentOf at hq
    simp only [if_true] at hq hb hy'
    simp only [← hy'] at hq
    by_cases c1 : y' < 1 ∨ 9999 < y'
    · rw [if_pos c1] at hq; subst hq; left; simp
    rw [if_neg c1] at hq
    by_cases c2 : Cal.daysOk y' mo' dy = false
    · rw [if_pos c2] at hq; subst hq; left; simp
    rw [if_neg c2, if_neg (by omega), if_neg (by omega), if_neg (by omega)] at hq
    split at hq
    · subst hq; left; simp
    · split at hq
      · subst hq; left; simp
      · subst hq
        right
        intro e
        have e2 : Cal.daysOf y' mo' dy = Cal.daysOf y mo' dy := by rw [hok.2]; dsimp only at e; omega
        obtain ⟨rfl, _, _⟩ := days_inj (by simpa using c2) hok.1 e2
        omega

/-! has a text a second of 60? -/
def leaptB : List UInt8 → Bool
  | [] => false
  | c :: l => if [58, 54, 48].isPrefixOf (c :: l) then true else leaptB l
theorem leapt_mid (a b : List UInt8) : leaptB (a ++ 58 :: 54 :: 48 :: b) = true := by
  induction a with
  | nil => rfl
  | cons c a ih =>
    show (if [58, 54, 48].isPrefixOf (c :: (a ++ 58 :: 54 :: 48 :: b)) then true else leaptB (a ++ 58 :: 54 :: 48 :: b)) = true
    rw [ih]; split <;> rfl
theorem d2_60 : d2 60 = [54, 48] := by decide
theorem leapt_txt {form wd mo : Nat} {dt : List UInt8} {y h mi : Int} : leaptB (txt form wd mo dt y h mi 60) = true := by
  unfold txt clk
  rw [d2_60]
  by_cases h0 : form = 0
  · rw [if_pos h0]
    have := leapt_mid (shortN.getD wd [] ++ 44 :: 32 :: (dt ++ 32 :: (monN.getD mo [] ++ 32 :: (d4 y ++ 32 :: (d2 h ++ 58 :: d2 mi))))) [32, 71, 77, 84]
    simpa [List.append_assoc] using this
  · rw [if_neg h0]
    by_cases h1 : form = 1
    · rw [if_pos h1]
      have := leapt_mid (longN.getD wd [] ++ 44 :: 32 :: (dt ++ 45 :: (monN.getD mo [] ++ 45 :: (d2 y ++ 32 :: (d2 h ++ 58 :: d2 mi))))) [32, 71, 77, 84]
      simpa [List.append_assoc] using this
    · rw [if_neg h1]
      have := leapt_mid (shortN.getD wd [] ++ 32 :: (monN.getD mo [] ++ 32 :: (dt ++ 32 :: (d2 h ++ 58 :: d2 mi)))) (32 :: d4 y)
      simpa [List.append_assoc] using this

/-! one text, one date -/
theorem chr_inj {a b : Nat} (ha : a ≤ 9) (hb : b ≤ 9) (h : UInt8.ofNat (48 + a) = UInt8.ofNat (48 + b)) : a = b := by
  have := congrArg UInt8.toNat h
  rw [UInt8.toNat_ofNat', UInt8.toNat_ofNat'] at this
  omega
theorem d2_inj {a b : Int} (a0 : 0 ≤ a) (a1 : a ≤ 99) (b0 : 0 ≤ b) (b1 : b ≤ 99) (h : d2 a = d2 b) : a = b := by
  unfold d2 at h
  simp only [List.cons.injEq, and_true] at h
  have e1 := chr_inj (by omega) (by omega) h.1
  have e2 := chr_inj (by omega) (by omega) h.2
  omega
theorem d4_inj {a b : Int} (a0 : 0 ≤ a) (a1 : a ≤ 9999) (b0 : 0 ≤ b) (b1 : b ≤ 9999) (h : d4 a = d4 b) : a = b := by
  unfold d4 at h
  obtain ⟨h1, h2⟩ := List.append_inj h rfl
  have e1 := d2_inj (by omega) (by omega) (by omega) (by omega) h1
  have e2 := d2_inj (by omega) (by omega) (by omega) (by omega) h2
  omega
theorem short3 {wd : Nat} (h : wd < 7) : (shortN.getD wd []).length = 3 := by
  have : wd = 0 ∨ wd = 1 ∨ wd = 2 ∨ wd = 3 ∨ wd = 4 ∨ wd = 5 ∨ wd = 6 := by omega
  rcases this with rfl | rfl | rfl | rfl | rfl | rfl | rfl <;> rfl
theorem mon3 {m : Nat} (h : m < 12) : (monN.getD m []).length = 3 := by
  have : m = 0 ∨ m = 1 ∨ m = 2 ∨ m = 3 ∨ m = 4 ∨ m = 5 ∨ m = 6 ∨ m = 7 ∨ m = 8 ∨ m = 9 ∨ m = 10 ∨ m = 11 := by omega
  rcases this with rfl | rfl | rfl | rfl | rfl | rfl | rfl | rfl | rfl | rfl | rfl | rfl <;> rfl
theorem short_inj {a b : Nat} (ha : a < 7) (hb : b < 7) (h : shortN.getD a [] = shortN.getD b []) : a = b := by
  have key : ∀ a : Fin 7, ∀ b : Fin 7, shortN.getD a.val [] = shortN.getD b.val [] → a = b := by decide
  have := key ⟨a, ha⟩ ⟨b, hb⟩ h
  exact congrArg Fin.val this
theorem mon_inj {a b : Nat} (ha : a < 12) (hb : b < 12) (h : monN.getD a [] = monN.getD b []) : a = b := by
  have key : ∀ a : Fin 12, ∀ b : Fin 12, monN.getD a.val [] = monN.getD b.val [] → a = b := by decide +kernel
  have := key ⟨a, ha⟩ ⟨b, hb⟩ h
  exact congrArg Fin.val this
theorem dt_len {form : Nat} {d : Int} {dt : List UInt8} (h : DtOk form d dt) : dt.length = 2 := by
  rcases h with rfl | ⟨_, _, rfl⟩ <;> rfl
theorem dt_last {form : Nat} {d : Int} {dt : List UInt8} (h : DtOk form d dt) (d0 : 0 ≤ d) (_d1 : d ≤ 99) : ∃ c, dt = [c, UInt8.ofNat (48 + (d % 10).toNat)] := by
  rcases h with rfl | ⟨_, h9, rfl⟩
  · exact ⟨_, rfl⟩
  · exact ⟨32, by rw [show d % 10 = d by omega]⟩
/-- two of one length in the plain form that are alike but for the ninth sign -/
theorem plain_split {wd mo : Nat} {dt : List UInt8} {y h mi s : Int} {c e : UInt8} (hw : wd < 7) (hm : mo < 12) (hdt : dt = [c, e]) :
    (txt 2 wd mo dt y h mi s).take 8 = shortN.getD wd [] ++ 32 :: (monN.getD mo [] ++ [32]) ∧ (txt 2 wd mo dt y h mi s).drop 9 = e :: 32 :: (clk h mi s ++ 32 :: d4 y) := by
  subst hdt
  have l1 := short3 hw
  have l2 := mon3 hm
  have e1 : txt 2 wd mo [c, e] y h mi s = (shortN.getD wd [] ++ 32 :: (monN.getD mo [] ++ [32])) ++ c :: (e :: 32 :: (clk h mi s ++ 32 :: d4 y)) := by
    simp [txt]
  have l3 : (shortN.getD wd [] ++ 32 :: (monN.getD mo [] ++ [32])).length = 8 := by simp only [List.length_append, List.length_cons, List.length_nil, l1, l2]
  rw [e1]
  constructor
  · rw [List.take_append_of_le_length (by omega), List.take_of_length_le (by omega)]
  · rw [List.drop_append, l3, List.drop_of_length_le (by omega)]; rfl
theorem good_plain {a b : List UInt8} {nY m n : Int} (ha : Good 2 a nY m) (hb : Good 2 b nY n) (he : a.take 8 ++ a.drop 9 = b.take 8 ++ b.drop 9) : m = n := by
  obtain ⟨st, wd, mo, dt, y, F, D, rfl, hy, y0, y1, ok, hh, hmi, hss, hwd, rfl⟩ := ha
  obtain ⟨st', wd', mo', dt', y', F', D', rfl, hy', y0', y1', ok', hh', hmi', hss', hwd', rfl⟩ := hb
  rw [if_neg (by decide)] at hy hy'
  have F1 := F.dy0; have F2 := F.dy1; have F3 := F'.dy0; have F4 := F'.dy1
  change 0 ≤ st.dy at F1; change st.dy ≤ 99 at F2; change 0 ≤ st'.dy at F3; change st'.dy ≤ 99 at F4
  obtain ⟨c, hc⟩ := dt_last D F1 F2
  obtain ⟨c', hc'⟩ := dt_last D' F3 F4
  obtain ⟨p1, p2⟩ := plain_split (y := st.yr) (h := st.hh) (mi := st.mi) (s := st.ss) F.wd7 F.mo12 hc
  obtain ⟨q1, q2⟩ := plain_split (y := st'.yr) (h := st'.hh) (mi := st'.mi) (s := st'.ss) F'.wd7 F'.mo12 hc'
  rw [p1, p2, q1, q2] at he
  have ls := short3 F.wd7; have ls' := short3 F'.wd7; have lm := mon3 F.mo12; have lm' := mon3 F'.mo12
  obtain ⟨e1, e2⟩ := List.append_inj he (by simp only [List.length_append, List.length_cons, List.length_nil, ls, ls', lm, lm'])
  obtain ⟨e3, e4⟩ := List.append_inj e1 (by rw [ls, ls'])
  simp only [List.cons.injEq, true_and] at e4 e2
  obtain ⟨e5, _⟩ := List.append_inj e4 (by rw [lm, lm'])
  obtain ⟨e6, e7⟩ := e2
  have w := short_inj F.wd7 F'.wd7 e3
  have mm := mon_inj F.mo12 F'.mo12 e5
  have d10 := chr_inj (by omega) (by omega) e6
  unfold clk at e7
  simp only [List.append_assoc, List.cons_append] at e7
  obtain ⟨g1, e8⟩ := List.append_inj e7 rfl
  simp only [List.cons.injEq, true_and] at e8
  obtain ⟨g2, e9⟩ := List.append_inj e8 rfl
  simp only [List.cons.injEq, true_and] at e9
  obtain ⟨g3, e10⟩ := List.append_inj e9 rfl
  simp only [List.cons.injEq, true_and] at e10
  have k1 := d2_inj F.hh0 F.hh1 F'.hh0 F'.hh1 g1
  have k2 := d2_inj F.mi0 F.mi1 F'.mi0 F'.mi1 g2
  have k3 := d2_inj F.ss0 F.ss1 F'.ss0 F'.ss1 g3
  have k4 := d4_inj F.yr0 F.yr1 F'.yr0 F'.yr1 e10
  have m1 := F.moE; have m2 := F'.moE; have w1 := F.wdE; have w2 := F'.wdE
  change st.mo = _ at m1; change st'.mo = _ at m2; change st.wd = _ at w1; change st'.wd = _ at w2
  change st.hh = st'.hh at k1; change st.mi = st'.mi at k2; change st.ss = st'.ss at k3; change st.yr = st'.yr at k4
  have my : y = y' := by rw [hy, hy', k4]
  have mmo : st.mo = st'.mo := by rw [m1, m2, mm]
  have mwd : st.wd = st'.wd := by rw [w1, w2, w]
  have hd1 : 1 ≤ st.dy ∧ st.dy ≤ 31 := by
    have := Cal.mdays_lo y st.mo
    unfold Cal.daysOk at ok; rw [decide_eq_true_eq] at ok; omega
  have hd2 : 1 ≤ st'.dy ∧ st'.dy ≤ 31 := by
    have := Cal.mdays_lo y' st'.mo
    unfold Cal.daysOk at ok'; rw [decide_eq_true_eq] at ok'; omega
  have s1 : Cal.daysOf y st.mo st.dy = Cal.dby y + Cal.cum y st.mo + st.dy - 1 - 719162 := rfl
  have s2 : Cal.daysOf y' st'.mo st'.dy = Cal.dby y' + Cal.cum y' st'.mo + st'.dy - 1 - 719162 := rfl
  rw [← my, ← mmo] at s2
  rw [← my, ← mmo] at hwd'
  rw [← my, ← mmo, k1, k2, k3]
  rw [s1] at hwd
  rw [s2] at hwd'
  rw [s1, s2]
  omega
theorem good_one {form : Nat} {a b : List UInt8} {nY m n : Int} (hf : form < 3) (ha : Good form a nY m) (hb : Good form b nY n) (na : leaptB a = false) (nb : leaptB b = false) (hab : a ≠ b) (hs : form = 2 → a.take 8 ++ a.drop 9 ≠ b.take 8 ++ b.drop 9) : m ≠ n := by
  intro e
  obtain ⟨st, wd, mo, dt, y, F, D, rfl, hy, y0, y1, ok, hh, hmi, hss, hwd, rfl⟩ := ha
  obtain ⟨st', wd', mo', dt', y', F', D', rfl, hy', y0', y1', ok', hh', hmi', hss', hwd', rfl⟩ := hb
  have n60 : st.ss ≠ 60 := by intro h; rw [h, leapt_txt] at na; exact absurd na (by decide)
  have n60' : st'.ss ≠ 60 := by intro h; rw [h, leapt_txt] at nb; exact absurd nb (by decide)
  have z1 := F.hh0; have z2 := F.mi0; have z3 := F.ss0; have z4 := F'.hh0; have z5 := F'.mi0; have z6 := F'.ss0
  change 0 ≤ st.hh at z1; change 0 ≤ st.mi at z2; change 0 ≤ st.ss at z3; change 0 ≤ st'.hh at z4; change 0 ≤ st'.mi at z5; change 0 ≤ st'.ss at z6
  have ed : Cal.daysOf y st.mo st.dy = Cal.daysOf y' st'.mo st'.dy := by omega
  have eh : st.hh = st'.hh := by omega
  have em : st.mi = st'.mi := by omega
  have es : st.ss = st'.ss := by omega
  obtain ⟨ey, emo, edy⟩ := days_inj ok ok' ed
  have ew : st.wd = st'.wd := by rw [hwd, hwd', ed]
  have m1 := F.moE; have m2 := F'.moE; have w1 := F.wdE; have w2 := F'.wdE
  change st.mo = _ at m1; change st'.mo = _ at m2; change st.wd = _ at w1; change st'.wd = _ at w2
  have ewd : wd = wd' := by omega
  have emm : mo = mo' := by omega
  have eyr : st.yr = st'.yr := by
    have u1 := F.yr0; have u2 := F.yr1; have u3 := F'.yr0; have u4 := F'.yr1
    change 0 ≤ st.yr at u1; change st.yr ≤ yTop form at u2; change 0 ≤ st'.yr at u3; change st'.yr ≤ yTop form at u4
    by_cases h1 : form = 1
    · rw [if_pos h1] at hy hy'
      unfold yTop at u2 u4
      rw [if_pos h1] at u2 u4
      have v1 := nearY_bd st.yr (nY - 49)
      have v2 := nearY_bd st'.yr (nY - 49)
      rw [← hy] at v1
      rw [← hy'] at v2
      omega
    · rw [if_neg h1] at hy hy'
      omega
  by_cases h2 : form = 2
  · subst h2
    apply hs rfl
    have F1 := F.dy0; have F2 := F.dy1; have F3 := F'.dy0; have F4 := F'.dy1
    change 0 ≤ st.dy at F1; change st.dy ≤ 99 at F2; change 0 ≤ st'.dy at F3; change st'.dy ≤ 99 at F4
    obtain ⟨c, hc⟩ := dt_last D F1 F2
    obtain ⟨c', hc'⟩ := dt_last D' F3 F4
    obtain ⟨p1, p2⟩ := plain_split (y := st.yr) (h := st.hh) (mi := st.mi) (s := st.ss) F.wd7 F.mo12 hc
    obtain ⟨q1, q2⟩ := plain_split (y := st'.yr) (h := st'.hh) (mi := st'.mi) (s := st'.ss) F'.wd7 F'.mo12 hc'
    rw [p1, p2, q1, q2, ewd, emm, edy, eh, em, es, eyr]
  · apply hab
    have d1 : dt = d2 st.dy := by rcases D with h | ⟨h, _⟩; exact h; exact absurd h h2
    have d1' : dt' = d2 st'.dy := by rcases D' with h | ⟨h, _⟩; exact h; exact absurd h h2
    rw [d1, d1', ewd, emm, edy, eh, em, es, eyr]
end Go.Proofs.YtmfnofpphnlbnaaDoor.Stm
