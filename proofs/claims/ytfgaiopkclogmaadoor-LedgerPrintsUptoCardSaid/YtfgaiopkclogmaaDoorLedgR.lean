/- The lines of a ledger in plain Lean: what a line says; a line that says an entry is that entry's line. -/
import Derived.Test.YtfgaiopkclogmaaDoorLedgQ
import Derived.Test.YtfgaiopkclogmaaDoorMarkA
namespace Go.Proofs.YtfgaiopkclogmaaDoor
open Go Go.RowKit

/-- an entry: its name, method, target, and its numbers -/
structure En where
  name : List UInt8
  meth : List UInt8
  tgt : List UInt8
  conn : Int
  numb : Int
  tick : Int
  stat : Int
  byts : Int
def nameB (c : UInt8) : Bool := (isLet c || isDig c) || (c == 45 || c == 95 || c == 46)
def signL : List UInt8 := [33, 35, 36, 37, 38, 39, 42, 43, 45, 46, 94, 95, 96, 124, 126]
def signB (c : UInt8) : Bool := (isDig c || isLet c) || signL.any (· == c)
def conL : List UInt8 := [32, 99, 111, 110, 110, 61]
def numbL : List UInt8 := [32, 110, 117, 109, 98, 101, 114, 61]
def tickL : List UInt8 := [32, 116, 105, 99, 107, 61]
def printL (e : En) : List UInt8 :=
  e.name ++ (conL ++ (Lib.itoa e.conn ++ (numbL ++ (Lib.itoa e.numb ++ (tickL ++ (Lib.itoa e.tick ++ ([32] ++ (e.meth ++ ([32] ++ (quoteL e.tgt ++ ([32] ++ (Lib.itoa e.stat ++ ([32] ++ Lib.itoa e.byts)))))))))))))
def rightE (e : En) : Bool :=
  decide (0 ≤ e.conn ∧ 0 ≤ e.numb ∧ 0 ≤ e.byts ∧ 0 ≤ e.tick ∧ 100 ≤ e.stat ∧ e.stat ≤ 599)
    && ((e.name.all nameB && decide (1 ≤ e.name.length ∧ e.name.length ≤ 64)) && ((e.meth.all signB && decide (1 ≤ e.meth.length ∧ e.meth.length ≤ 24)) && (e.tgt.all tgtB && decide (1 ≤ e.tgt.length ∧ e.tgt.length ≤ 65536))))
/-! What is read of a line, step by step. -/
def pA (S : List UInt8) : St := runS S nameB 64 (0, false)
def pB (S : List UInt8) : St := litS S conL (pA S)
def pC (S : List UInt8) : Int × St := numS S (pB S)
def pD (S : List UInt8) : St := litS S numbL (pC S).2
def pE (S : List UInt8) : Int × St := numS S (pD S)
def pF (S : List UInt8) : St := litS S tickL (pE S).2
def pG (S : List UInt8) : Int × St := numS S (pF S)
def pH (S : List UInt8) : St := litS S [32] (pG S).2
def pI (S : List UInt8) : St := runS S signB 24 (pH S)
def pJ (S : List UInt8) : St := litS S [32] (pI S)
def pK (S : List UInt8) : List UInt8 × St := tgtS S (pJ S)
def pL (S : List UInt8) : St := litS S [32] (pK S).2
def pM (S : List UInt8) : Int × St := stS S (pL S)
def pN (S : List UInt8) : St := litS S [32] (pM S).2
def pO (S : List UInt8) : Int × St := numS S (pN S)
def parsedE (S : List UInt8) : En := ⟨S.take (pA S).1, (S.drop (pH S).1).take ((pI S).1 - (pH S).1), (pK S).1, (pC S).1, (pE S).1, (pG S).1, (pM S).1, (pO S).1⟩
def parseEnd (S : List UInt8) : St := (pO S).2
def parsesB (S : List UInt8) : Bool := !(parseEnd S).2 && decide ((parseEnd S).1 = S.length)

theorem st_eta {st : St} (h : st.2 = false) : st = (st.1, false) := Prod.ext rfl h
theorem litS_step {S t : List UInt8} {st : St} (h : (litS S t st).2 = false) : st.2 = false ∧ S.drop st.1 = t ++ S.drop (litS S t st).1 := by
  have hb : st.2 = false := by
    cases hh : st.2
    · rfl
    · rw [show st = (st.1, true) from Prod.ext rfl hh, litS_bad] at h; cases h
  have e := st_eta h
  rw [st_eta hb] at e ⊢
  exact ⟨rfl, (litS_ok S t _ _ e).1⟩
theorem runS_step {S : List UInt8} {may : UInt8 → Bool} {mx : Nat} {st : St} (h : (runS S may mx st).2 = false) :
    st.2 = false ∧ ∃ x, S.drop st.1 = x ++ S.drop (runS S may mx st).1 ∧ x.all may = true ∧ 1 ≤ x.length ∧ x.length ≤ mx ∧ (S.drop st.1).take ((runS S may mx st).1 - st.1) = x := by
  have hb : st.2 = false := by
    cases hh : st.2
    · rfl
    · unfold runS at h; rw [if_pos hh, hh] at h; cases h
  have e := st_eta h
  rw [st_eta hb] at e ⊢
  obtain ⟨x, e1, e2, e3, e4, e5⟩ := runS_ok S may mx _ _ e
  refine ⟨rfl, x, e1, e2, e3, e4, ?_⟩
  rw [e1, show (runS S may mx (st.1, false)).1 - (st.1, false).1 = x.length by show _ - st.1 = _; omega, List.take_left]
theorem numS_step {S : List UInt8} {st : St} (h : (numS S st).2.2 = false) : st.2 = false ∧ S.drop st.1 = Lib.itoa (numS S st).1 ++ S.drop (numS S st).2.1 ∧ 0 ≤ (numS S st).1 ∧ (numS S st).1 ≤ mostI := by
  have hb : st.2 = false := by
    cases hh : st.2
    · rfl
    · unfold numS at h; rw [if_pos hh, hh] at h; cases h
  have e : numS S st = ((numS S st).1, ((numS S st).2.1, false)) := Prod.ext rfl (st_eta h)
  rw [st_eta hb] at e ⊢
  have := numS_ok S _ _ _ e
  exact ⟨rfl, this.1, this.2.1, this.2.2.1⟩
theorem tgtS_step {S : List UInt8} {st : St} (h : (tgtS S st).2.2 = false) : st.2 = false ∧ S.drop st.1 = quoteL (tgtS S st).1 ++ S.drop (tgtS S st).2.1 ∧ (tgtS S st).1.all tgtB = true ∧ 1 ≤ (tgtS S st).1.length ∧ (tgtS S st).1.length ≤ 65536 := by
  have hb : st.2 = false := by
    cases hh : st.2
    · rfl
    · unfold tgtS at h
      rw [show st = (st.1, true) from Prod.ext rfl hh, litS_bad] at h
      simp at h
  have e : tgtS S st = ((tgtS S st).1, ((tgtS S st).2.1, false)) := Prod.ext rfl (st_eta h)
  rw [st_eta hb] at e ⊢
  have := tgtS_ok S _ _ _ e
  exact ⟨rfl, this.1, this.2.1, this.2.2.1, this.2.2.2⟩
theorem stS_step {S : List UInt8} {st : St} (h : (stS S st).2.2 = false) : st.2 = false ∧ S.drop st.1 = Lib.itoa (stS S st).1 ++ S.drop (stS S st).2.1 ∧ 100 ≤ (stS S st).1 ∧ (stS S st).1 ≤ 599 := by
  have hb : st.2 = false := by
    cases hh : st.2
    · rfl
    · unfold stS at h; rw [if_pos hh, hh] at h; cases h
  have e : stS S st = ((stS S st).1, ((stS S st).2.1, false)) := Prod.ext rfl (st_eta h)
  rw [st_eta hb] at e ⊢
  have := stS_ok S _ _ _ e
  exact ⟨rfl, this.1, this.2.1, this.2.2⟩
/-- THE LAW: a line that says an entry is that entry's line, and the entry is right. -/
theorem parse_once (S : List UInt8) (h : (parseEnd S).2 = false) (hn : (parseEnd S).1 = S.length) : printL (parsedE S) = S ∧ rightE (parsedE S) = true := by
  obtain ⟨hN, eO, o1, o2⟩ := numS_step (st := pN S) h
  obtain ⟨hM, eN⟩ := litS_step (st := (pM S).2) hN
  obtain ⟨hL, eM, m1, m2⟩ := stS_step (st := pL S) hM
  obtain ⟨hK, eL⟩ := litS_step (st := (pK S).2) hL
  obtain ⟨hJ, eK, k1, k2, k3⟩ := tgtS_step (st := pJ S) hK
  obtain ⟨hI, eJ⟩ := litS_step (st := pI S) hJ
  obtain ⟨hH, xi, eI, i1, i2, i3, i4⟩ := runS_step (st := pH S) hI
  obtain ⟨hG, eH⟩ := litS_step (st := (pG S).2) hH
  obtain ⟨hF, eG, g1, g2⟩ := numS_step (st := pF S) hG
  obtain ⟨hE, eF⟩ := litS_step (st := (pE S).2) hF
  obtain ⟨hD, eE, e1, e2⟩ := numS_step (st := pD S) hE
  obtain ⟨hC, eD⟩ := litS_step (st := (pC S).2) hD
  obtain ⟨hB, eC, c1, c2⟩ := numS_step (st := pB S) hC
  obtain ⟨hA, eB⟩ := litS_step (st := pA S) hB
  obtain ⟨_, xa, eA, a1, a2, a3, a4⟩ := runS_step (st := (0, false)) hA
  have nA : (parsedE S).name = xa := a4
  have nI : (parsedE S).meth = xi := i4
  have hall : S.drop (parseEnd S).1 = [] := by rw [hn]; exact List.drop_of_length_le (Nat.le_refl _)
  constructor
  · unfold printL
    rw [nA, nI]
    have e0 : S = S.drop 0 := rfl
    conv => rhs; rw [e0]
    have fO : S.drop (pN S).1 = Lib.itoa (parsedE S).byts := by
      have := eO
      rw [show S.drop (numS S (pN S)).2.1 = [] from hall, List.append_nil] at this
      exact this
    have fN : S.drop (pM S).2.1 = [32] ++ S.drop (pN S).1 := eN
    have fM : S.drop (pL S).1 = Lib.itoa (parsedE S).stat ++ S.drop (pM S).2.1 := eM
    have fL : S.drop (pK S).2.1 = [32] ++ S.drop (pL S).1 := eL
    have fK : S.drop (pJ S).1 = quoteL (parsedE S).tgt ++ S.drop (pK S).2.1 := eK
    have fJ : S.drop (pI S).1 = [32] ++ S.drop (pJ S).1 := eJ
    have fI : S.drop (pH S).1 = xi ++ S.drop (pI S).1 := eI
    have fH : S.drop (pG S).2.1 = [32] ++ S.drop (pH S).1 := eH
    have fG : S.drop (pF S).1 = Lib.itoa (parsedE S).tick ++ S.drop (pG S).2.1 := eG
    have fF : S.drop (pE S).2.1 = tickL ++ S.drop (pF S).1 := eF
    have fE : S.drop (pD S).1 = Lib.itoa (parsedE S).numb ++ S.drop (pE S).2.1 := eE
    have fD : S.drop (pC S).2.1 = numbL ++ S.drop (pD S).1 := eD
    have fC : S.drop (pB S).1 = Lib.itoa (parsedE S).conn ++ S.drop (pC S).2.1 := eC
    have fB : S.drop (pA S).1 = conL ++ S.drop (pB S).1 := eB
    have fA : S.drop 0 = xa ++ S.drop (pA S).1 := eA
    rw [fA, fB, fC, fD, fE, fF, fG, fH, fI, fJ, fK, fL, fM, fN, fO]
  · unfold rightE
    rw [nA, nI, i1, a1, show (parsedE S).tgt.all tgtB = true from k1, decide_eq_true (show 1 ≤ xi.length ∧ xi.length ≤ 24 from ⟨i2, i3⟩), decide_eq_true (show 1 ≤ xa.length ∧ xa.length ≤ 64 from ⟨a2, a3⟩),
      decide_eq_true (show 1 ≤ (parsedE S).tgt.length ∧ (parsedE S).tgt.length ≤ 65536 from ⟨k2, k3⟩),
      decide_eq_true (show 0 ≤ (parsedE S).conn ∧ 0 ≤ (parsedE S).numb ∧ 0 ≤ (parsedE S).byts ∧ 0 ≤ (parsedE S).tick ∧ 100 ≤ (parsedE S).stat ∧ (parsedE S).stat ≤ 599 from ⟨c1, e1, o1, g1, m1, m2⟩)]
    rfl
end Go.Proofs.YtfgaiopkclogmaaDoor
