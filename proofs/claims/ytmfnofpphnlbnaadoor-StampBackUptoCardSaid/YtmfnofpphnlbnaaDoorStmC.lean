/- The texts of the three forms as a whole, in plain Lean: what is read is what is written. No program in sight. -/
import Derived.Test.YtmfnofpphnlbnaaDoorStmB
namespace Go.Proofs.YtmfnofpphnlbnaaDoor.Stm

/-- what a text says, without the places -/
structure Co where
  wd : Int
  mo : Int
  dy : Int
  yr : Int
  hh : Int
  mi : Int
  ss : Int
  deriving DecidableEq
def core (st : St) : Co := ⟨st.wd, st.mo, st.dy, st.yr, st.hh, st.mi, st.ss⟩
def setNameC (k n : Nat) (c : Co) : Co := if k = 2 then { c with mo := (n : Int) + 1 } else { c with wd := n }
def setDigC (f : Nat) (v : Int) (c : Co) : Co :=
  if f = 0 then { c with dy := v } else if f = 1 then { c with yr := v } else if f = 2 then { c with hh := v } else if f = 3 then { c with mi := v } else { c with ss := v }
theorem core_setName (k n : Nat) (st : St) (a : Nat) : core (setName k n { st with at_ := a }) = setNameC k n (core st) := by
  unfold setName setNameC; split <;> rfl
theorem core_setDig (f : Nat) (v : Int) (p : Nat) (st : St) (a : Nat) : core (setDig f v p { st with at_ := a }) = setDigC f v (core st) := by
  unfold setDig setDigC; split <;> (try rfl); split <;> (try rfl); split <;> (try rfl); split <;> rfl
def RunC : List Pc → Co → Co → List UInt8 → Prop
  | [], k, k', x => k' = k ∧ x = []
  | .lit c :: ps, k, k', x => ∃ y, x = c :: y ∧ RunC ps k k' y
  | .name j :: ps, k, k', x => ∃ n w y, (namesOf j)[n]? = some w ∧ x = w ++ y ∧ RunC ps (setNameC j n k) k' y
  | .dig w b f :: ps, k, k', x => ∃ v t y, DigText w b 0 t v ∧ x = t ++ y ∧ RunC ps (setDigC f v k) k' y
theorem runC_of : ∀ {ps : List Pc} {st st' : St} {x : List UInt8}, RunText ps st st' x → RunC ps (core st) (core st') x
  | [], st, st', x, h => by obtain ⟨rfl, rfl⟩ := h; exact ⟨rfl, rfl⟩
  | .lit c :: ps, st, st', x, h => by
    obtain ⟨_, _, y, ⟨rfl, rfl⟩, h, rfl⟩ := h
    exact ⟨y, rfl, runC_of (st := { st with at_ := st.at_ + 1 }) h⟩
  | .name j :: ps, st, st', x, h => by
    obtain ⟨_, _, y, ⟨n, w, hn, rfl, rfl⟩, h, rfl⟩ := h
    have := runC_of h
    rw [core_setName] at this
    exact ⟨n, _, y, hn, rfl, this⟩
  | .dig w b f :: ps, st, st', x, h => by
    obtain ⟨_, _, y, ⟨v, hv, rfl⟩, h, rfl⟩ := h
    have := runC_of h
    rw [core_setDig] at this
    exact ⟨v, _, y, hv, rfl, this⟩
theorem of_runC : ∀ {ps : List Pc} {st : St} {k : Co} {x : List UInt8}, RunC ps (core st) k x → ∃ st', RunText ps st st' x ∧ core st' = k
  | [], st, k, x, h => by obtain ⟨rfl, rfl⟩ := h; exact ⟨st, ⟨rfl, rfl⟩, rfl⟩
  | .lit c :: ps, st, k, x, h => by
    obtain ⟨y, rfl, h⟩ := h
    obtain ⟨st', h1, h2⟩ := of_runC (st := { st with at_ := st.at_ + 1 }) h
    exact ⟨st', ⟨_, _, y, ⟨rfl, rfl⟩, h1, rfl⟩, h2⟩
  | .name j :: ps, st, k, x, h => by
    obtain ⟨n, w, y, hn, rfl, h⟩ := h
    rw [← core_setName j n st (st.at_ + w.length)] at h
    obtain ⟨st', h1, h2⟩ := of_runC h
    exact ⟨st', ⟨_, _, y, ⟨n, w, hn, rfl, rfl⟩, h1, rfl⟩, h2⟩
  | .dig w b f :: ps, st, k, x, h => by
    obtain ⟨v, t, y, hv, rfl, h⟩ := h
    rw [← core_setDig f v st.at_ st (st.at_ + w)] at h
    obtain ⟨st', h1, h2⟩ := of_runC h
    exact ⟨st', ⟨_, _, y, ⟨v, hv, rfl⟩, h1, rfl⟩, h2⟩

theorem sn0 (n : Nat) (a b c d e f g : Int) : setNameC 0 n ⟨a, b, c, d, e, f, g⟩ = ⟨n, b, c, d, e, f, g⟩ := rfl
theorem sn1 (n : Nat) (a b c d e f g : Int) : setNameC 1 n ⟨a, b, c, d, e, f, g⟩ = ⟨n, b, c, d, e, f, g⟩ := rfl
theorem sn2 (n : Nat) (a b c d e f g : Int) : setNameC 2 n ⟨a, b, c, d, e, f, g⟩ = ⟨a, (n : Int) + 1, c, d, e, f, g⟩ := rfl
theorem sd0 (v a b c d e f g : Int) : setDigC 0 v ⟨a, b, c, d, e, f, g⟩ = ⟨a, b, v, d, e, f, g⟩ := rfl
theorem sd1 (v a b c d e f g : Int) : setDigC 1 v ⟨a, b, c, d, e, f, g⟩ = ⟨a, b, c, v, e, f, g⟩ := rfl
theorem sd2 (v a b c d e f g : Int) : setDigC 2 v ⟨a, b, c, d, e, f, g⟩ = ⟨a, b, c, d, v, f, g⟩ := rfl
theorem sd3 (v a b c d e f g : Int) : setDigC 3 v ⟨a, b, c, d, e, f, g⟩ = ⟨a, b, c, d, e, v, g⟩ := rfl
theorem sd4 (v a b c d e f g : Int) : setDigC 4 v ⟨a, b, c, d, e, f, g⟩ = ⟨a, b, c, d, e, f, v⟩ := rfl

/-- a day's text -/
def DtOk (form : Nat) (dy : Int) (dt : List UInt8) : Prop := dt = d2 dy ∨ (form = 2 ∧ dy ≤ 9 ∧ dt = [32, UInt8.ofNat (48 + dy.toNat)])
def clk (h mi s : Int) : List UInt8 := d2 h ++ 58 :: (d2 mi ++ 58 :: d2 s)
def txt (form wd mo : Nat) (dt : List UInt8) (y h mi s : Int) : List UInt8 :=
  if form = 0 then shortN.getD wd [] ++ 44 :: 32 :: (dt ++ 32 :: (monN.getD mo [] ++ 32 :: (d4 y ++ 32 :: (clk h mi s ++ [32, 71, 77, 84]))))
  else if form = 1 then longN.getD wd [] ++ 44 :: 32 :: (dt ++ 45 :: (monN.getD mo [] ++ 45 :: (d2 y ++ 32 :: (clk h mi s ++ [32, 71, 77, 84]))))
  else shortN.getD wd [] ++ 32 :: (monN.getD mo [] ++ 32 :: (dt ++ 32 :: (clk h mi s ++ 32 :: d4 y)))
def yTop (form : Nat) : Int := if form = 1 then 99 else 9999
structure Fit (form : Nat) (st : Co) (wd mo : Nat) : Prop where
  wdE : st.wd = (wd : Int)
  moE : st.mo = (mo : Int) + 1
  wd7 : wd < 7
  mo12 : mo < 12
  dy0 : 0 ≤ st.dy
  dy1 : st.dy ≤ 99
  yr0 : 0 ≤ st.yr
  yr1 : st.yr ≤ yTop form
  hh0 : 0 ≤ st.hh
  hh1 : st.hh ≤ 99
  mi0 : 0 ≤ st.mi
  mi1 : st.mi ≤ 99
  ss0 : 0 ≤ st.ss
  ss1 : st.ss ≤ 99

theorem getD_of {l : List (List UInt8)} {n : Nat} {w : List UInt8} (h : l[n]? = some w) : w = l.getD n [] ∧ n < l.length := by
  refine ⟨?_, (List.getElem?_eq_some_iff.1 h).1⟩
  rw [List.getD_eq_getElem?_getD, h]; rfl
theorem of_getD {l : List (List UInt8)} {n : Nat} (h : n < l.length) : l[n]? = some (l.getD n []) := by
  rw [List.getD_eq_getElem?_getD, List.getElem?_eq_getElem h]; rfl
def k0 : Co := ⟨0, 0, 0, 0, 0, 0, 0⟩

theorem txt_inv {form : Nat} {k : Co} {x : List UInt8} (hf : form < 3) (h : RunC (pcs form) k0 k x) : ∃ wd mo dt, Fit form k wd mo ∧ DtOk form k.dy dt ∧ x = txt form wd mo dt k.yr k.hh k.mi k.ss := by
  have : form = 0 ∨ form = 1 ∨ form = 2 := by omega
  rcases this with rfl | rfl | rfl
  · simp only [pcs, clockP, if_true, List.cons_append, List.nil_append, RunC, k0, sn0, sn2, sd0, sd1, sd2, sd3, sd4, digText2, digText4] at h
    obtain ⟨n, w, _, hn, rfl, _, rfl, _, rfl, dy, _, _, ⟨b1, b1', rfl⟩, rfl, _, rfl, m, u, _, hm, rfl, _, rfl, y, _, _, ⟨b2, b2', rfl⟩, rfl, _, rfl, hh, _, _, ⟨b3, b3', rfl⟩, rfl, _, rfl, mi, _, _, ⟨b4, b4', rfl⟩, rfl, _, rfl, ss, _, _, ⟨b5, b5', rfl⟩, rfl, _, rfl, _, rfl, _, rfl, _, rfl, rfl, rfl⟩ := h
    obtain ⟨rfl, l1⟩ := getD_of hn
    obtain ⟨rfl, l2⟩ := getD_of hm
    refine ⟨n, m, d2 dy, ⟨rfl, rfl, l1, l2, b1, b1', b2, b2', b3, b3', b4, b4', b5, b5'⟩, Or.inl rfl, ?_⟩
    simp only [txt, clk, if_true, List.append_assoc, List.cons_append]
    rfl
  · simp only [pcs, clockP, if_true, List.cons_append, List.nil_append, RunC, k0, sn1, sn2, sd0, sd1, sd2, sd3, sd4, digText2, if_neg (show ¬ (1 = 0) by decide)] at h
    obtain ⟨n, w, _, hn, rfl, _, rfl, _, rfl, dy, _, _, ⟨b1, b1', rfl⟩, rfl, _, rfl, m, u, _, hm, rfl, _, rfl, y, _, _, ⟨b2, b2', rfl⟩, rfl, _, rfl, hh, _, _, ⟨b3, b3', rfl⟩, rfl, _, rfl, mi, _, _, ⟨b4, b4', rfl⟩, rfl, _, rfl, ss, _, _, ⟨b5, b5', rfl⟩, rfl, _, rfl, _, rfl, _, rfl, _, rfl, rfl, rfl⟩ := h
    obtain ⟨rfl, l1⟩ := getD_of hn
    obtain ⟨rfl, l2⟩ := getD_of hm
    refine ⟨n, m, d2 dy, ⟨rfl, rfl, l1, l2, b1, b1', b2, b2', b3, b3', b4, b4', b5, b5'⟩, Or.inl rfl, ?_⟩
    simp only [txt, clk, if_true, List.append_assoc, List.cons_append, if_neg (show ¬ (1 = 0) by decide)]
    rfl
  · simp only [pcs, clockP, List.cons_append, List.nil_append, RunC, k0, sn0, sn2, sd0, sd1, sd2, sd3, sd4, digText2, digText2b, digText4, if_neg (show ¬ (2 = 0) by decide), if_neg (show ¬ (2 = 1) by decide)] at h
    obtain ⟨n, w, _, hn, rfl, _, rfl, m, u, _, hm, rfl, _, rfl, dy, dt, _, ⟨b1, b1', hdt⟩, rfl, _, rfl, hh, _, _, ⟨b3, b3', rfl⟩, rfl, _, rfl, mi, _, _, ⟨b4, b4', rfl⟩, rfl, _, rfl, ss, _, _, ⟨b5, b5', rfl⟩, rfl, _, rfl, y, _, _, ⟨b2, b2', rfl⟩, rfl, rfl, rfl⟩ := h
    obtain ⟨rfl, l1⟩ := getD_of hn
    obtain ⟨rfl, l2⟩ := getD_of hm
    refine ⟨n, m, dt, ⟨rfl, rfl, l1, l2, b1, b1', b2, b2', b3, b3', b4, b4', b5, b5'⟩, hdt.imp id (fun h => ⟨rfl, h⟩), ?_⟩
    simp only [txt, clk, List.append_assoc, List.cons_append, List.append_nil, if_neg (show ¬ (2 = 0) by decide), if_neg (show ¬ (2 = 1) by decide)]
    rfl

theorem txt_fwd {form : Nat} {k : Co} {wd mo : Nat} {dt : List UInt8} (hf : form < 3) (h : Fit form k wd mo) (hd : DtOk form k.dy dt) : RunC (pcs form) k0 k (txt form wd mo dt k.yr k.hh k.mi k.ss) := by
  obtain ⟨kwd, kmo, kdy, kyr, khh, kmi, kss⟩ := k
  obtain ⟨h1, h2, h3, h4, h5, h6, h7, h8, h9, h10, h11, h12, h13, h14⟩ := h
  dsimp only at *
  subst h1 h2
  have : form = 0 ∨ form = 1 ∨ form = 2 := by omega
  rcases this with rfl | rfl | rfl
  · obtain rfl : dt = d2 kdy := by rcases hd with h | ⟨h, _⟩; exact h; exact absurd h (by decide)
    simp only [pcs, clockP, if_true, List.cons_append, List.nil_append, RunC, k0, sn0, sn2, sd0, sd1, sd2, sd3, sd4, digText2, digText4]
    refine ⟨wd, _, _, of_getD h3, rfl, _, rfl, _, rfl, kdy, _, _, ⟨h5, h6, rfl⟩, rfl, _, rfl, mo, _, _, of_getD h4, rfl, _, rfl, kyr, _, _, ⟨h7, h8, rfl⟩, rfl, _, rfl, khh, _, 58 :: (d2 kmi ++ 58 :: (d2 kss ++ [32, 71, 77, 84])), ⟨h9, h10, rfl⟩, by simp only [clk, List.append_assoc, List.cons_append], _, rfl, kmi, _, _, ⟨h11, h12, rfl⟩, rfl, _, rfl, kss, _, _, ⟨h13, h14, rfl⟩, rfl, _, rfl, _, rfl, _, rfl, _, rfl, rfl, rfl⟩
  · obtain rfl : dt = d2 kdy := by rcases hd with h | ⟨h, _⟩; exact h; exact absurd h (by decide)
    simp only [pcs, clockP, if_true, List.cons_append, List.nil_append, RunC, k0, sn1, sn2, sd0, sd1, sd2, sd3, sd4, digText2, if_neg (show ¬ (1 = 0) by decide)]
    refine ⟨wd, _, _, of_getD h3, rfl, _, rfl, _, rfl, kdy, _, _, ⟨h5, h6, rfl⟩, rfl, _, rfl, mo, _, _, of_getD h4, rfl, _, rfl, kyr, _, _, ⟨h7, h8, rfl⟩, rfl, _, rfl, khh, _, 58 :: (d2 kmi ++ 58 :: (d2 kss ++ [32, 71, 77, 84])), ⟨h9, h10, rfl⟩, by simp only [clk, List.append_assoc, List.cons_append], _, rfl, kmi, _, _, ⟨h11, h12, rfl⟩, rfl, _, rfl, kss, _, _, ⟨h13, h14, rfl⟩, rfl, _, rfl, _, rfl, _, rfl, _, rfl, rfl, rfl⟩
  · simp only [pcs, clockP, List.cons_append, List.nil_append, RunC, k0, sn0, sn2, sd0, sd1, sd2, sd3, sd4, digText2, digText2b, digText4, if_neg (show ¬ (2 = 0) by decide), if_neg (show ¬ (2 = 1) by decide)]
    refine ⟨wd, _, _, of_getD h3, rfl, _, rfl, mo, _, _, of_getD h4, rfl, _, rfl, kdy, dt, _, ⟨h5, h6, hd.imp id (fun h => h.2)⟩, rfl, _, rfl, khh, _, 58 :: (d2 kmi ++ 58 :: (d2 kss ++ 32 :: d4 kyr)), ⟨h9, h10, rfl⟩, by simp only [clk, List.append_assoc, List.cons_append], _, rfl, kmi, _, _, ⟨h11, h12, rfl⟩, rfl, _, rfl, kss, _, _, ⟨h13, h14, rfl⟩, rfl, _, rfl, kyr, d4 kyr, [], ⟨h7, h8, rfl⟩, by simp, rfl, rfl⟩
end Go.Proofs.YtmfnofpphnlbnaaDoor.Stm
