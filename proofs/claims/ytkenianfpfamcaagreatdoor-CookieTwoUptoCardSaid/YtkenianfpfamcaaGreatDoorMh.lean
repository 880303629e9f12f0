/- Contract of the document's Parse: the moment that a text says. stamp's reader: its cells; what the closures that set its fields do. stamp's digits: what the closure takes. stamp's name: what the closure takes. stamp's formOf: the form that a text is to be in. -/
import Derived.Test.YtkenianfpfamcaaGreatDoorMf
namespace Go.Proofs.YtkenianfpfamcaaGreatDoor
open Go Go.RowKit
set_option maxHeartbeats 4000000

theorem results_tmp4 {fn : Func} {t u v x : Tmp} (h : fn.results = #[.tmp t, .tmp u, .tmp v, .tmp x]) (tmps : Array Value) (P : Program) (w : World) :
    (results fn tmps).run P w = .ok (.tuple #[tmps.getD t undef, tmps.getD u undef, tmps.getD v undef, tmps.getD x undef]) w := by simp [results, h]
def parseV (r : Stm.PR) : Value := .tuple #[.int .i64 r.m, .int .i64 r.form, .int .i64 r.e, .int .i64 r.at_]
def momY (st : Stm.St) (form : Nat) (y : Int) : Stm.PR :=
  if y < 1 ∨ 9999 < y then ⟨0, 0, 41, st.yrAt⟩
  else if Cal.daysOk y st.mo st.dy = false then ⟨0, 0, 41, st.dyAt⟩
  else if 23 < st.hh then ⟨0, 0, 42, st.hhAt⟩
  else if 59 < st.mi then ⟨0, 0, 42, st.miAt⟩
  else if 60 < st.ss then ⟨0, 0, 42, st.ssAt⟩
  else if st.wd ≠ (Cal.daysOf y st.mo st.dy + 3) % 7 then ⟨0, 0, 43, 0⟩
  else if 253402300799 < Cal.daysOf y st.mo st.dy * 86400 + st.hh * 3600 + st.mi * 60 + st.ss then ⟨0, 0, 40, 0⟩ else ⟨Cal.daysOf y st.mo st.dy * 86400 + st.hh * 3600 + st.mi * 60 + st.ss, form, 0, 0⟩
theorem momentOf_eq (st : Stm.St) (form : Nat) (n : Int) : Stm.momentOf st form n = momY st form (if form = 1 then Stm.nearY st.yr (n - 49) else st.yr) := rfl
theorem daysOf_bd {y mo d : Int} (h : Cal.daysOk y mo d = true) : -719162 ≤ Cal.daysOf y mo d ∧ Cal.daysOf y mo d ≤ 2932896 := by
  unfold Cal.daysOk at h
  rw [decide_eq_true_eq] at h
  obtain ⟨a, b, c, d⟩ := h
  obtain ⟨m1, m2⟩ := Cal.mdays_in y mo (by omega)
  have h1 := Cal.cum_le y mo m1 m2
  have h2 := Cal.cum_bd y mo
  have h3 := Cal.dby_succ y
  have h4 := Cal.dby_mono (y + 1) 10000 (by omega)
  have h5 : Cal.dby 10000 = 3652059 := by simp [Cal.dby]
  have h6 := Cal.dby_bd y a (by omega)
  unfold Cal.daysOf
  omega

theorem step_le (s : List UInt8) (p : Stm.Pc) (st : Stm.St) (h : st.at_ ≤ s.length) : (Stm.stepP s p st).1.at_ ≤ s.length := by
  cases p with
  | lit c =>
    rw [step_lit]
    by_cases hc : s[st.at_]? = some c
    · rw [if_pos (decide_eq_true hc)]; exact (List.getElem?_eq_some_iff.1 hc).1
    · rw [if_neg (by simp [hc])]; exact h
  | name k =>
    cases hr : Stm.firstOf (s.drop st.at_) (Stm.namesOf k) 0 with
    | none => rw [step_name_none hr]; exact h
    | some q =>
      obtain ⟨n, x⟩ := q
      rw [step_name_some hr]
      show (Stm.setName k n _).at_ ≤ _
      rw [Stm.at_setName]; exact first_le s st.at_ k n x hr h
  | dig w b f =>
    have := (digs_le s w b st.at_ 0 h (by omega)).1
    unfold Stm.stepP
    simp only []
    split
    · rw [Stm.at_setDig]; exact this
    · exact this
theorem run_le (s : List UInt8) : ∀ (ps : List Stm.Pc) (st : Stm.St), st.at_ ≤ s.length → (Stm.runP s ps st).1.at_ ≤ s.length
  | [], st, h => h
  | p :: ps, st, h => by
    rw [Stm.runP_cons]
    split
    · exact run_le s ps _ (step_le s p st h)
    · exact step_le s p st h

end Go.Proofs.YtkenianfpfamcaaGreatDoor
namespace Go.Proofs.YtkenianfpfamcaaGreatDoor
open Go Go.RowKit
set_option maxHeartbeats 2000000

/-- nothing of old memory but block b has turned -/
structure But (b : Nat) (w w' : World) : Prop where
  size : w.heap.size ≤ w'.heap.size
  cell : ∀ c o, c ≠ b → c < w.heap.size → w'.cell? ⟨c, o, none⟩ = w.cell? ⟨c, o, none⟩
  frozen : ∀ c o, c ≠ b → c < w.heap.size → w'.frozen? ⟨c, o, none⟩ = w.frozen? ⟨c, o, none⟩
theorem But.refl (b : Nat) (w : World) : But b w w := ⟨Nat.le_refl _, fun _ _ _ _ => rfl, fun _ _ _ _ => rfl⟩
theorem But.trans {b : Nat} {w w1 w2 : World} (h : But b w w1) (k : But b w1 w2) : But b w w2 :=
  ⟨Nat.le_trans h.size k.size, fun c o hc hl => (k.cell c o hc (Nat.lt_of_lt_of_le hl h.size)).trans (h.cell c o hc hl), fun c o hc hl => (k.frozen c o hc (Nat.lt_of_lt_of_le hl h.size)).trans (h.frozen c o hc hl)⟩
theorem But.of_below {b : Nat} {w w1 : World} (h : Below w.heap.size w w1) : But b w w1 :=
  ⟨h.size, fun c o _ hl => h.cell (p := ⟨c, o, none⟩) hl, fun c o _ hl => h.frozen (p := ⟨c, o, none⟩) hl⟩
theorem But.set {b : Nat} (w : World) (o : Nat) (v : Value) : But b w (w.setCell ⟨b, o, none⟩ v) :=
  ⟨by rw [World.size_setCell]; exact Nat.le_refl _, fun c o' hc _ => World.cell?_setCell_other _ _ _ _ (by intro h; injection h with h1; exact hc h1.symm), fun c o' _ _ => World.frozen?_setCell _ _ _ _⟩
theorem CellsAt.but {b c : Nat} {w w' : World} {cs : List Value} (h : CellsAt w c cs) (k : But b w w') (hc : c ≠ b) : CellsAt w' c cs where
  cell j hj := by rw [k.cell c j hc h.lt]; exact h.cell j hj
  free j := by rw [k.frozen c j hc h.lt]; exact h.free j
  lt := Nat.lt_of_lt_of_le h.lt k.size
theorem CellsAt.drewN {c : Nat} {w : World} {cs : List Value} (h : CellsAt w c cs) (n : Nat) : CellsAt (w.drewN n) c cs := h.next (below_of_drewN n)

/-- a reader's cells -/
def rdCells (s : ByteArray) (st : Stm.St) : List Value :=
  [.string s, .int .i64 st.at_, .int .i64 st.yr, .int .i64 st.mo, .int .i64 st.dy, .int .i64 st.hh, .int .i64 st.mi, .int .i64 st.ss, .int .i64 st.wd, .int .i64 st.dyAt, .int .i64 st.yrAt, .int .i64 st.hhAt]
/-- a reader stands in block b -/
structure Rd (w0 w : World) (b : Nat) (s : ByteArray) (st : Stm.St) : Prop where
  cells : CellsAt w b (rdCells s st)
  but : But b w0 w
  below : Below b w0 w
theorem Rd.drewN {w0 w : World} {b : Nat} {s : ByteArray} {st : Stm.St} (h : Rd w0 w b s st) (n : Nat) : Rd w0 (w.drewN n) b s st :=
  ⟨h.cells.drewN n, h.but.trans (But.of_below (below_of_drewN n)), below_drewN h.below n⟩
theorem Rd.next {w0 w w' : World} {b : Nat} {s : ByteArray} {st : Stm.St} (h : Rd w0 w b s st) (hb : Below w.heap.size w w') : Rd w0 w' b s st :=
  ⟨h.cells.next hb, h.but.trans (But.of_below hb), h.below.trans (hb.mono (Nat.le_of_lt h.cells.lt))⟩
theorem Rd.start {w : World} {b : Nat} {s : ByteArray} {st : Stm.St} (h : CellsAt w b (rdCells s st)) : Rd w w b s st := ⟨h, But.refl _ _, Below.refl _ _⟩
theorem Rd.trans {w0 w w' : World} {b : Nat} {s : ByteArray} {st st' : Stm.St} (h : Rd w0 w b s st) (k : Rd w w' b s st') : Rd w0 w' b s st' :=
  ⟨k.cells, h.but.trans k.but, h.below.trans k.below⟩
theorem Rd.set {w0 w : World} {b : Nat} {s : ByteArray} {st st' : Stm.St} (h : Rd w0 w b s st) (o : Nat) (ho : o < 12) (v : Value) (e : (rdCells s st).set o v = rdCells s st') : Rd w0 (w.setCell ⟨b, o, none⟩ v) b s st' :=
  ⟨e ▸ h.cells.set o (by simpa [rdCells] using ho) v, h.but.trans (But.set w o v), h.below.setCell (p := ⟨b, o, none⟩) (Nat.le_refl _) v⟩
theorem Rd.s {w0 w : World} {b : Nat} {s : ByteArray} {st : Stm.St} (h : Rd w0 w b s st) : w.cell? ⟨b, 0, none⟩ = some (.string s) := h.cells.cell 0 (by simp [rdCells])
theorem Rd.at {w0 w : World} {b : Nat} {s : ByteArray} {st : Stm.St} (h : Rd w0 w b s st) : w.cell? ⟨b, 1, none⟩ = some (.int .i64 st.at_) := h.cells.cell 1 (by simp [rdCells])
/-- how a call that sets fields ends -/
def Sets (w0 : World) (b : Nat) (s : ByteArray) (st : Stm.St) (e : Ending) (w' : World) : Prop := e = .returned (.tuple #[]) ∧ Rd w0 w' b s st

theorem set_wd (b : Nat) (s : ByteArray) (st : Stm.St) (n : Nat) (w : World) (h : CellsAt w b (rdCells s st)) :
    Calls Tryz.prog 179 #[.pointer (some ⟨b, 0, none⟩), .int .i64 n] w (Sets w b s (Stm.setName 0 n st)) := by
  have c := h.cell 8 (by simp [rdCells])
  have g := h.free 8
  simp only [rdCells, List.getElem_cons_zero, List.getElem_cons_succ] at c
  have H := Lib.hid (Rd.start h)
  clear h
  go_enter Tryz.func179, Tryz.ntmps179
  go_wp2_with fail
  refine bodyPost_end (results_none rfl _ _ _) rfl ?_
  exact ⟨rfl, H.out.set 8 (by decide) _ rfl⟩
theorem set_mo (b : Nat) (s : ByteArray) (st : Stm.St) (n : Nat) (w : World) (h : CellsAt w b (rdCells s st)) (hn : n ≤ 1000) :
    Calls Tryz.prog 181 #[.pointer (some ⟨b, 0, none⟩), .int .i64 n] w (Sets w b s (Stm.setName 2 n st)) := by
  have c := h.cell 3 (by simp [rdCells])
  have g := h.free 3
  simp only [rdCells, List.getElem_cons_zero, List.getElem_cons_succ] at c
  have H := Lib.hid (Rd.start h)
  clear h
  go_enter Tryz.func181, Tryz.ntmps181
  go_wp2_with fail
  refine bodyPost_end (results_none rfl _ _ _) rfl ?_
  exact ⟨rfl, H.out.set 3 (by decide) _ rfl⟩
theorem set_d0 (b : Nat) (s : ByteArray) (st : Stm.St) (v : Int) (a : Nat) (w : World) (h : CellsAt w b (rdCells s st)) :
    Calls Tryz.prog 184 #[.pointer (some ⟨b, 0, none⟩), .int .i64 v, .int .i64 a] w (Sets w b s (Stm.setDig 0 v a st)) := by
  have c := h.cell 4 (by simp [rdCells])
  have g := h.free 4
  have c2 := h.cell 9 (by simp [rdCells])
  have g2 := h.free 9
  simp only [rdCells, List.getElem_cons_zero, List.getElem_cons_succ] at c c2
  have H := Lib.hid (Rd.start h)
  clear h
  go_enter Tryz.func184, Tryz.ntmps184
  go_wp2_with fail
  refine bodyPost_end (results_none rfl _ _ _) rfl ?_
  have H1 := H.out.set (st' := { (Stm.setDig 0 v a st) with dyAt := st.dyAt }) 4 (by decide) (.int .i64 v) rfl
  exact ⟨rfl, H1.set 9 (by decide) _ rfl⟩
theorem set_d1 (b : Nat) (s : ByteArray) (st : Stm.St) (v : Int) (a : Nat) (w : World) (h : CellsAt w b (rdCells s st)) :
    Calls Tryz.prog 186 #[.pointer (some ⟨b, 0, none⟩), .int .i64 v, .int .i64 a] w (Sets w b s (Stm.setDig 1 v a st)) := by
  have c := h.cell 2 (by simp [rdCells])
  have g := h.free 2
  have c2 := h.cell 10 (by simp [rdCells])
  have g2 := h.free 10
  simp only [rdCells, List.getElem_cons_zero, List.getElem_cons_succ] at c c2
  have H := Lib.hid (Rd.start h)
  clear h
  go_enter Tryz.func186, Tryz.ntmps186
  go_wp2_with fail
  refine bodyPost_end (results_none rfl _ _ _) rfl ?_
  have H1 := H.out.set (st' := { (Stm.setDig 1 v a st) with yrAt := st.yrAt }) 2 (by decide) (.int .i64 v) rfl
  exact ⟨rfl, H1.set 10 (by decide) _ rfl⟩
theorem set_d2 (b : Nat) (s : ByteArray) (st : Stm.St) (v : Int) (a : Nat) (w : World) (h : CellsAt w b (rdCells s st)) :
    Calls Tryz.prog 187 #[.pointer (some ⟨b, 0, none⟩), .int .i64 v, .int .i64 a] w (Sets w b s (Stm.setDig 2 v a st)) := by
  have c := h.cell 5 (by simp [rdCells])
  have g := h.free 5
  have c2 := h.cell 11 (by simp [rdCells])
  have g2 := h.free 11
  simp only [rdCells, List.getElem_cons_zero, List.getElem_cons_succ] at c c2
  have H := Lib.hid (Rd.start h)
  clear h
  go_enter Tryz.func187, Tryz.ntmps187
  go_wp2_with fail
  refine bodyPost_end (results_none rfl _ _ _) rfl ?_
  have H1 := H.out.set (st' := { (Stm.setDig 2 v a st) with hhAt := st.hhAt }) 5 (by decide) (.int .i64 v) rfl
  exact ⟨rfl, H1.set 11 (by decide) _ rfl⟩
theorem set_d3 (b : Nat) (s : ByteArray) (st : Stm.St) (v : Int) (a : Nat) (w : World) (h : CellsAt w b (rdCells s st)) :
    Calls Tryz.prog 189 #[.pointer (some ⟨b, 0, none⟩), .int .i64 v, .int .i64 a] w (Sets w b s (Stm.setDig 3 v a st)) := by
  have c := h.cell 6 (by simp [rdCells])
  have g := h.free 6
  simp only [rdCells, List.getElem_cons_zero, List.getElem_cons_succ] at c
  have H := Lib.hid (Rd.start h)
  clear h
  go_enter Tryz.func189, Tryz.ntmps189
  go_wp2_with fail
  refine bodyPost_end (results_none rfl _ _ _) rfl ?_
  exact ⟨rfl, H.out.set 6 (by decide) _ rfl⟩
theorem set_d4 (b : Nat) (s : ByteArray) (st : Stm.St) (v : Int) (a : Nat) (w : World) (h : CellsAt w b (rdCells s st)) :
    Calls Tryz.prog 190 #[.pointer (some ⟨b, 0, none⟩), .int .i64 v, .int .i64 a] w (Sets w b s (Stm.setDig 4 v a st)) := by
  have c := h.cell 7 (by simp [rdCells])
  have g := h.free 7
  simp only [rdCells, List.getElem_cons_zero, List.getElem_cons_succ] at c
  have H := Lib.hid (Rd.start h)
  clear h
  go_enter Tryz.func190, Tryz.ntmps190
  go_wp2_with fail
  refine bodyPost_end (results_none rfl _ _ _) rfl ?_
  exact ⟨rfl, H.out.set 7 (by decide) _ rfl⟩

/-- how a piece ends: the reader stands behind it, or at the place that is wrong -/
def Took (w0 : World) (b : Nat) (s : ByteArray) (r : Stm.St × Bool) (e : Ending) (w' : World) : Prop := e = .returned (.bool r.2) ∧ Rd w0 w' b s r.1
theorem Took.of {w0 w' : World} {b : Nat} {s : ByteArray} {q : Stm.St} {ok : Bool} {r : Stm.St × Bool} (hr : Hid (r = (q, ok))) (h : Rd w0 w' b s q) : Took w0 b s r (.returned (.bool ok)) w' := by
  rw [hr.out]; exact ⟨rfl, h⟩
theorem lit_step {s : List UInt8} {t : List UInt8} {i : Nat} (h : i < t.length) (st : Stm.St) : Stm.runP s ((t.drop i).map Stm.Pc.lit) st = if s[st.at_]? = some t[i] then Stm.runP s ((t.drop (i + 1)).map Stm.Pc.lit) { st with at_ := st.at_ + 1 } else (st, false) := by
  rw [List.drop_eq_getElem_cons h, List.map_cons, Stm.runP_cons, step_lit]
  by_cases hc : s[st.at_]? = some t[i]
  · rw [if_pos (decide_eq_true hc), if_pos hc]; rfl
  · rw [if_neg hc]; simp [hc]

set_option maxRecDepth 100000 in
theorem text_any (b c : Nat) (s t : ByteArray) (st : Stm.St) (w : World) (h : CellsAt w b (rdCells s st)) (hc : w.cell? ⟨c, 0, none⟩ = some (.string t)) (hcb : c ≠ b) (hcl : c < w.heap.size) (hs : s.size ≤ 1099511627) (ht : t.size ≤ 100) (hat : st.at_ ≤ s.size) :
    Calls Tryz.prog 223 #[.pointer (some ⟨b, 0, none⟩), .pointer (some ⟨c, 0, none⟩)] w (Took w b s (Stm.runP (L s) ((L t).map Stm.Pc.lit) st)) := by
  obtain ⟨R, hR⟩ := name_it (Stm.runP (L s) ((L t).map Stm.Pc.lit) st)
  rw [hR.out]
  have HS := Lib.hid (Rd.start h)
  have HL := Lib.hid (L_length s)
  clear h
  go_enter Tryz.func223, Tryz.ntmps223
  go_wp2_with fail
  go_loopw [4, 7] (fun _ i wq => ∃ (k : Nat) (q : Stm.St), k ≤ t.size ∧ i = .int .i64 k ∧ q.at_ ≤ s.size ∧ Hid (Stm.runP (L s) (((L t).drop k).map Stm.Pc.lit) q = R) ∧ Hid (Rd w wq b s q)) (fun _ i _ => t.size - (intOf i).toNat)
  case atStart => exact ⟨0, st, Nat.zero_le _, rfl, hat, hR, HS⟩
  case round =>
    obtain ⟨k, q, hk, rfl, hqa, hrun, A⟩ := hrel
    have hcq : wr.cell? ⟨c, 0, none⟩ = some (.string t) := by rw [A.out.but.cell c 0 hcb hcl]; exact hc
    have hs0 := A.out.s
    have hs1 := A.out.at
    have g1 := A.out.cells.free 1
    obtain ⟨a, ha⟩ := name_it q.at_
    rw [ha.out] at hs1 hqa
    have hai : (a : Int) ≤ s.size := by omega
    by_cases hlt : k < t.size
    · have hki : (k : Int) < t.size := by omega
      have hst := Lib.hid (lit_step (s := L s) (t := L t) (by rw [L_length]; exact hlt) q)
      rw [ha.out, L_getElem hlt] at hst
      by_cases hin : a < s.size
      · have hii : (a : Int) < s.size := by omega
        rw [L_get? hin] at hst
        obtain ⟨x, hx⟩ := name_it s[a]
        obtain ⟨y, hy⟩ := name_it t[k]
        rw [hx.out, hy.out] at hst
        have hx' : s[a] = x := hx.out
        have hy' : t[k] = y := hy.out
        by_cases hxy : x = y
        · have e1 : ((x.toNat : Int) == (y.toNat : Int)) = true := by simp [hxy]
          have e2 : ((x.toNat : Int) != (y.toNat : Int)) = false := by simp [hxy]
          have hnx : Hid (Stm.runP (L s) (((L t).drop (k + 1)).map Stm.Pc.lit) { q with at_ := a + 1 } = R) := by rw [← hrun.out, hst.out, if_pos (by rw [hxy])]; rfl
          have A2 : Hid (∀ n, Rd w ((wr.drewN n).setCell ⟨b, 1, none⟩ (.int .i64 ((a : Int) + 1))) b s { q with at_ := a + 1 }) := fun n => (A.out.drewN n).set 1 (by decide) _ rfl
          clear hst hrun hx hy
          go_wp2_with fail
          go_quiet (fail)
          go_wp2_with fail
          go_roundw
          case rel => exact ⟨k + 1, { q with at_ := a + 1 }, by omega, by go_num, hin, hnx, A2.out _⟩
          case measure => simp [intOf]; omega
        · have e1 : ((x.toNat : Int) == (y.toNat : Int)) = false := by
            rw [beq_eq_false_iff_ne]; intro e; exact hxy (UInt8.toNat_inj.1 (by exact_mod_cast e))
          have e2 : ((x.toNat : Int) != (y.toNat : Int)) = true := by simp [bne, e1]
          have hr : Hid (R = (q, false)) := by rw [← hrun.out, hst.out, if_neg (by simpa using hxy)]; rfl
          clear hst hrun hx hy
          go_wp2_with fail
          go_quiet (fail)
          go_wp2_with fail
          go_ret
          exact Took.of hr (A.out.drewN _)
      · have hii : (s.size : Int) ≤ a := by omega
        rw [L_get?_none (by omega)] at hst
        have hr : Hid (R = (q, false)) := by rw [← hrun.out, hst.out, if_neg (by simp)]; rfl
        clear hst hrun
        go_wp2_with fail
        go_quiet (fail)
        go_wp2_with fail
        go_ret
        exact Took.of hr (A.out.drewN _)
    · obtain rfl : k = t.size := by omega
      have hr : Hid (R = (q, true)) := by rw [← hrun.out, L_drop_all]; rfl
      clear hrun
      go_wp2_with fail
      go_ret
      exact Took.of hr A.out
end Go.Proofs.YtkenianfpfamcaaGreatDoor
namespace Go.Proofs.YtkenianfpfamcaaGreatDoor
open Go Go.RowKit
set_option maxHeartbeats 2000000

/-- what a closure that is handed digits does -/
def GotD (g f : Nat) : Prop := ∀ (b : Nat) (s : ByteArray) (st : Stm.St) (v : Int) (a : Nat) (w : World), CellsAt w b (rdCells s st) → Calls Tryz.prog g #[.pointer (some ⟨b, 0, none⟩), .int .i64 v, .int .i64 a] w (Sets w b s (Stm.setDig f v a st))

set_option maxRecDepth 100000 in
theorem digits_any (g f : Nat) (hgs : g = 184 ∨ g = 186 ∨ g = 187 ∨ g = 189 ∨ g = 190) (hg : GotD g f) (b c1 c2 c3 n : Nat) (bl : Bool) (s : ByteArray) (st : Stm.St) (w : World) (h : CellsAt w b (rdCells s st))
    (hc1 : w.cell? ⟨c1, 0, none⟩ = some (.int .i64 n)) (hc2 : w.cell? ⟨c2, 0, none⟩ = some (.bool bl)) (hc3 : w.cell? ⟨c3, 0, none⟩ = some (.func (.func g) #[] #[]))
    (n1 : c1 ≠ b) (l1 : c1 < w.heap.size) (n2 : c2 ≠ b) (l2 : c2 < w.heap.size) (n3 : c3 ≠ b) (l3 : c3 < w.heap.size) (hs : s.size ≤ 1099511627) (hn : n ≤ 4) (hat : st.at_ ≤ s.size) :
    Calls Tryz.prog 222 #[.pointer (some ⟨b, 0, none⟩), .pointer (some ⟨c1, 0, none⟩), .pointer (some ⟨c2, 0, none⟩), .pointer (some ⟨c3, 0, none⟩)] w (Took w b s (Stm.stepP (L s) (.dig n bl f) st)) := by
  obtain ⟨R, hR⟩ := name_it (Stm.stepP (L s) (.dig n bl f) st)
  rw [hR.out]
  obtain ⟨D, hD⟩ := name_it (Stm.digs (L s) n bl st.at_ 0)
  have hRD : Hid (R = if D.2.2 then (Stm.setDig f D.2.1 st.at_ { st with at_ := D.1 }, true) else ({ st with at_ := D.1 }, false)) := by rw [← hR.out]; exact step_dig hD.out
  clear hR
  have HG := Lib.hid hg
  have HGS := Lib.hid hgs
  clear hgs
  clear hg
  have HS := Lib.hid (Rd.start h)
  have HL := Lib.hid (L_length s)
  have s0 := HS.out.s
  have s1 := HS.out.at
  clear h
  obtain ⟨a0, ha0⟩ := name_it st.at_
  rw [ha0.out] at s1 hRD hD hat
  go_enter Tryz.func222, Tryz.ntmps222
  go_wp2_with fail
  go_loopw [7, 8, 9, 15] (fun v _ _ i wq => ∃ (k : Nat) (m : Int) (e : Bool), k ≤ n ∧ i = .int .i64 k ∧ v = .int .i64 m ∧ 0 ≤ m ∧ m < 10 ^ k ∧ a0 + k ≤ s.size ∧ Hid (Stm.digs (L s) (n - k) e (a0 + k) m = D) ∧ Hid (e = (bl && k == 0)) ∧ Hid (Rd w wq b s { st with at_ := a0 + k })) (fun _ _ _ i _ => n - (intOf i).toNat)
  case atStart => exact ⟨0, 0, bl, Nat.zero_le _, rfl, rfl, by omega, by simp, hat, hD, by simp [Hid], by rw [← ha0.out]; exact HS⟩
  case round =>
    obtain ⟨k, m, e, hk, rfl, rfl, m0, m1, hak, hd, he, A⟩ := hrel
    have q1 : wr.cell? ⟨c1, 0, none⟩ = some (.int .i64 n) := by rw [A.out.but.cell c1 0 n1 l1]; exact hc1
    have q2 : wr.cell? ⟨c2, 0, none⟩ = some (.bool bl) := by rw [A.out.but.cell c2 0 n2 l2]; exact hc2
    have q3 : wr.cell? ⟨c3, 0, none⟩ = some (.func (.func g) #[] #[]) := by rw [A.out.but.cell c3 0 n3 l3]; exact hc3
    have hs0 := A.out.s
    have hs1 := A.out.at
    have g1 := A.out.cells.free 1
    obtain ⟨a, ha⟩ : ∃ a : Nat, Hid (a0 + k = a) := ⟨_, rfl⟩
    rw [ha.out] at hs1 hd hak
    have A' : Hid (Rd w wr b s { st with at_ := a }) := by rw [← ha.out]; exact A
    clear A
    have A := A'
    clear A'
    have hai : (a : Int) ≤ s.size := by omega
    have hp4 : (10 : Int) ^ k ≤ 10000 := by
      have : (10 : Nat) ^ k ≤ 10 ^ 4 := Nat.pow_le_pow_right (by omega) (by omega)
      exact_mod_cast this
    have m2 : m ≤ 9999 := by omega
    have HM := Lib.hid m1
    clear hp4 m1
    have hps : (10 : Int) ^ (k + 1) = 10 ^ k * 10 := Int.pow_succ _ _
    have HP := Lib.hid hps
    clear hps
    by_cases hlt : k < n
    · have hkn : (k : Int) < n := by omega
      by_cases hin : a < s.size
      · have hii : (a : Int) < s.size := by omega
        have hst := digs_some (w := n - (k + 1)) (b := e) (v := m) (L_get? hin)
        rw [show n - (k + 1) + 1 = n - k by omega] at hst
        have HSt := Lib.hid hst
        clear hst
        obtain ⟨c, hc⟩ := name_it (s[a])
        rw [hc.out] at HSt
        have hc' : s[a] = c := hc.out
        have hcm : (c.toNat : Int) < 256 := by have := UInt8.toNat_lt c; omega
        have A2 : Hid (∀ r, Rd w ((wr.drewN r).setCell ⟨b, 1, none⟩ (.int .i64 ((a : Int) + 1))) b s { st with at_ := a0 + (k + 1) }) := by
          intro r
          have := (A.out.drewN r).set (st' := { st with at_ := a + 1 }) 1 (by decide) (.int .i64 ((a : Int) + 1)) rfl
          rw [show a0 + (k + 1) = a + 1 by have := ha.out; omega]; exact this
        have A3 : Hid (∀ r r2, Rd w (((wr.drewN r).drewN r2).setCell ⟨b, 1, none⟩ (.int .i64 ((a : Int) + 1))) b s { st with at_ := a0 + (k + 1) }) := by
          intro r r2
          have := ((A.out.drewN r).drewN r2).set (st' := { st with at_ := a + 1 }) 1 (by decide) (.int .i64 ((a : Int) + 1)) rfl
          rw [show a0 + (k + 1) = a + 1 by have := ha.out; omega]; exact this
        have hak2 : a0 + (k + 1) ≤ s.size := by have := ha.out; omega
        by_cases hdg : 48 ≤ c.toNat ∧ c.toNat ≤ 57
        · have heb : (e && c == 32) = false := by rw [Stm.isDig_ne c (by unfold Stm.isDig; exact decide_eq_true hdg)]; simp
          have hN : Hid (Stm.digs (L s) (n - (k + 1)) false (a0 + (k + 1)) (10 * m + ((c.toNat : Int) - 48)) = D) := by
            rw [← hd.out, HSt.out, heb, if_neg (by simp), if_pos (show Stm.isDig c = true by unfold Stm.isDig; exact decide_eq_true hdg), show a0 + (k + 1) = a + 1 by have := ha.out; omega]; rfl
          have hm2 : Hid (10 * m + ((c.toNat : Int) - 48) < 10 ^ (k + 1)) := by have := HM.out; rw [HP.out]; unfold Hid; omega
          have hcb : ((c.toNat : Int) == 32) = false := by rw [beq_eq_false_iff_ne]; omega
          have hcase : bl = false ∨ (bl = true ∧ ((k : Int) == 0) = false) ∨ (bl = true ∧ ((k : Int) == 0) = true) := by
            cases bl <;> simp <;> omega
          clear HSt HM HP hd hc
          rcases hcase with rfl | ⟨rfl, hkb⟩ | ⟨rfl, hkb⟩
          all_goals
            go_wp2_with fail
            go_quiet (fail)
            go_wp2_with fail
            go_quiet (fail)
            go_wp2_with fail
            all_goals (try (exfalso; omega))
            go_roundw
            case rel => exact ⟨k + 1, _, false, by omega, by go_num, rfl, by omega, hm2.out, hak2, hN, by simp [Hid], by first | exact A2.out _ | exact A3.out _ _⟩
            case measure => simp [intOf]; omega
        · by_cases hbk : bl = true ∧ k = 0 ∧ c = 32
          · have heb : (e && c == 32) = true := by rw [he.out, hbk.1, hbk.2.1, hbk.2.2]; rfl
            have hm0 : m = 0 := by have := HM.out; rw [hbk.2.1] at this; simp at this; omega
            have hN : Hid (Stm.digs (L s) (n - (k + 1)) false (a0 + (k + 1)) (10 * m) = D) := by
              rw [← hd.out, HSt.out, heb, if_pos rfl, show a0 + (k + 1) = a + 1 by have := ha.out; omega]; rfl
            have hm2 : Hid (10 * m < 10 ^ (k + 1)) := by have := HM.out; rw [HP.out]; unfold Hid; omega
            have hkb : ((k : Int) == 0) = true := by simp; exact hbk.2.1
            have hcb : ((c.toNat : Int) == 32) = true := by rw [hbk.2.2]; rfl
            obtain rfl := hbk.1
            clear HSt HM HP hd hc hbk hm0 heb
            go_wp2_with fail
            go_quiet (fail)
            go_wp2_with fail
            go_quiet (fail)
            go_wp2_with fail
            all_goals (try (exfalso; omega))
            go_roundw
            case rel => exact ⟨k + 1, 10 * m, false, by omega, by go_num, by go_num, by omega, hm2.out, hak2, hN, by simp [Hid], by first | exact A2.out _ | exact A3.out _ _⟩
            case measure => simp [intOf]; omega
          · have heb : (e && c == 32) = false := by
              rw [Bool.eq_false_iff]; intro h; rw [he.out] at h; simp at h; exact hbk ⟨h.1.1, h.1.2, h.2⟩
            have hr : Hid (R = ({ st with at_ := a }, false)) := by
              have hD2 : D = (a, m, false) := by
                rw [← hd.out, HSt.out, heb, if_neg (by simp), if_neg (show ¬ Stm.isDig c = true by unfold Stm.isDig; rw [decide_eq_true_eq]; exact hdg)]
              rw [hRD.out, hD2]; rfl
            have hcase : bl = false ∨ (bl = true ∧ ((k : Int) == 0) = false) ∨ (bl = true ∧ ((k : Int) == 0) = true ∧ ((c.toNat : Int) == 32) = false) := by
              cases bl
              · exact Or.inl rfl
              · by_cases hk1 : k = 0
                · refine Or.inr (Or.inr ⟨rfl, by simp [hk1], byte_ne (fun h => hbk ⟨rfl, hk1, h⟩)⟩)
                · exact Or.inr (Or.inl ⟨rfl, by simp; omega⟩)
            clear HSt HM HP hd hc hbk heb
            rcases hcase with rfl | ⟨rfl, hkb⟩ | ⟨rfl, hkb, hcb⟩
            all_goals
              go_wp2_with fail
              go_quiet (fail)
              go_wp2_with fail
              go_quiet (fail)
              go_wp2_with fail
              all_goals (try (exfalso; omega))
              all_goals go_ret
              all_goals first | exact Took.of hr (A.out.drewN _) | exact Took.of hr ((A.out.drewN _).drewN _)
      · have hii : (s.size : Int) ≤ a := by omega
        have hr : Hid (R = ({ st with at_ := a }, false)) := by
          have hst := digs_none (w := n - (k + 1)) (b := e) (v := m) (L_get?_none (show s.size ≤ a by omega))
          rw [show n - (k + 1) + 1 = n - k by omega] at hst
          rw [hRD.out, ← hd.out, hst]; rfl
        clear HM HP hd
        go_wp2_with fail
        go_quiet (fail)
        go_wp2_with fail
        all_goals (try (exfalso; omega))
        go_ret
        exact Took.of hr (A.out.drewN _)
    · obtain rfl : k = n := by omega
      have hr : Hid (R = (Stm.setDig f m a0 { st with at_ := a }, true)) := by
        rw [hRD.out, ← hd.out, Nat.sub_self]; rfl
      clear HM HP hd
      rcases HGS.out with rfl | rfl | rfl | rfl | rfl
      all_goals
        go_wp2_with fail
        all_goals (try (exfalso; omega))
        refine (HG.out b s { st with at_ := a } m a0 _ A.out.cells).mono ?_; rintro e' w1 ⟨rfl, hR1⟩
        have A1 := Lib.hid (A.out.trans hR1)
        go_wp2_with fail
        go_ret
        exact Took.of hr A1.out
theorem gotD0 : GotD 184 0 := fun b s st v a w h => set_d0 b s st v a w h
theorem gotD1 : GotD 186 1 := fun b s st v a w h => set_d1 b s st v a w h
theorem gotD2 : GotD 187 2 := fun b s st v a w h => set_d2 b s st v a w h
theorem gotD3 : GotD 189 3 := fun b s st v a w h => set_d3 b s st v a w h
theorem gotD4 : GotD 190 4 := fun b s st v a w h => set_d4 b s st v a w h
end Go.Proofs.YtkenianfpfamcaaGreatDoor
namespace Go.Proofs.YtkenianfpfamcaaGreatDoor
open Go Go.RowKit
set_option maxHeartbeats 2000000

theorem EnvS.but {b : Nat} {w w' : World} (h : EnvS w) (k : But b w w') (hb : Below b w w') (h6 : 9 ≤ b) : EnvS w' where
  n := Nat.le_trans h.n k.size
  pow := var?_below hb gPow (Nat.lt_of_lt_of_le (by decide) h6) h.pow
  week j hj := by rw [hb.cell (p := ⟨0, j, none⟩) (Nat.lt_of_lt_of_le (by show 0 < 9; decide) h6)]; exact h.week j hj
  mon j hj := by rw [hb.cell (p := ⟨1, j, none⟩) (Nat.lt_of_lt_of_le (by show 1 < 9; decide) h6)]; exact h.mon j hj
set_option maxRecDepth 100000 in
theorem name0_any (b c1 c2 c3 : Nat) (s : ByteArray) (st : Stm.St) (w : World) (hE : EnvS w) (h : CellsAt w b (rdCells s st)) (hb6 : 9 ≤ b)
    (hc1 : w.cell? ⟨c1, 0, none⟩ = some (.slice (some ⟨0, 0, none⟩) 7 7)) (hc2 : w.cell? ⟨c2, 0, none⟩ = some (.int .i64 3)) (hc3 : w.cell? ⟨c3, 0, none⟩ = some (.func (.func 179) #[] #[]))
    (_n1 : c1 ≠ b) (_l1 : c1 < w.heap.size) (n2 : c2 ≠ b) (l2 : c2 < w.heap.size) (n3 : c3 ≠ b) (l3 : c3 < w.heap.size) (hs : s.size ≤ 1099511627) (hat : st.at_ ≤ s.size) :
    Calls Tryz.prog 221 #[.pointer (some ⟨b, 0, none⟩), .pointer (some ⟨c1, 0, none⟩), .pointer (some ⟨c2, 0, none⟩), .pointer (some ⟨c3, 0, none⟩)] w (Took w b s (Stm.stepP (L s) (.name 0) st)) := by
  obtain ⟨R, hR⟩ := name_it (Stm.stepP (L s) (.name 0) st)
  rw [hR.out]
  obtain ⟨t, ht⟩ := name_it ((L s).drop st.at_)
  have HS := Lib.hid (Rd.start h)
  have HE := Lib.hid hE
  have H6 := Lib.hid hb6
  have s0 := HS.out.s
  have s1 := HS.out.at
  obtain ⟨a0, ha0⟩ := name_it st.at_
  rw [ha0.out] at s1 hat ht
  have hai : (a0 : Int) ≤ s.size := by omega
  have hex : L (s.extract a0 s.size) = t := by rw [extract_tail, L_bs]; exact ht.out
  have HX := Lib.hid hex
  clear hex h hE hb6
  go_enter Tryz.func221, Tryz.ntmps221
  go_wp2_with fail
  go_loopw [6, 7, 10] (fun _ _ i wq => ∃ n : Nat, n ≤ 7 ∧ i = .int .i64 n ∧ Hid (Stm.firstOf t (Stm.shortN.drop n) n = Stm.firstOf t Stm.shortN 0) ∧ Hid (Rd w wq b s st)) (fun _ _ i _ => 7 - (intOf i).toNat)
  case atStart => exact ⟨0, by omega, rfl, rfl, HS⟩
  case round =>
    obtain ⟨n, hn, rfl, hn1, A⟩ := hrel
    have q2 : wr.cell? ⟨c2, 0, none⟩ = some (.int .i64 3) := by rw [A.out.but.cell c2 0 n2 l2]; exact hc2
    have q3 : wr.cell? ⟨c3, 0, none⟩ = some (.func (.func 179) #[] #[]) := by rw [A.out.but.cell c3 0 n3 l3]; exact hc3
    have hs0 := A.out.s
    have hs1 := A.out.at
    have g1 := A.out.cells.free 1
    rw [ha0.out] at hs1
    by_cases hlt : n < 7
    · have hni : (n : Int) < 7 := by omega
      have hst := Lib.hid (first_step t Stm.shortN n hlt)
      have l9 := short_len n
      have hcell := (HE.out.but A.out.but A.out.below H6.out).week n hlt
      have hso := short_of n hlt
      obtain ⟨y, hy⟩ := name_it (bs (Stm.longN.getD n []))
      rw [hy.out] at hcell hso
      obtain ⟨hso1, hso2⟩ := hso
      obtain ⟨x, hx⟩ := name_it (bs (Stm.shortN.getD n []))
      rw [hx.out] at hso1
      have hso1' : y.extract 0 3 = x := hso1.symm
      clear hso1
      have zx : x.size ≤ 9 := by rw [← hx.out, size_bs]; exact l9
      have hLx : Hid (Stm.shortN.getD n [] = L x) := by rw [← hx.out]; rfl
      clear l9
      rw [hLx.out] at hst
      obtain ⟨ok, hok⟩ := name_it ((L x).isPrefixOf t)
      rw [hok.out] at hst
      have hpf : ∀ (wx : World) (q : Nat), Calls Tryz.prog 95 #[.string (s.extract a0 s.size), .string x] (wx.drewN q) fun e w' => e = .returned (.bool ok) ∧ ∃ m, w' = wx.drewN m := by
        intro wx q
        have hv : Lib.hasPrefix (s.extract a0 s.size).data.toList x.data.toList = ok := by
          rw [← hok.out, ← HX.out]; rfl
        rw [← hv]
        exact Calls.quiet_of_same (Tryz.strings_HasPrefix _ _ _)
      have HPF := Lib.hid hpf
      clear hpf hx
      cases ok
      · have hnx : Hid (Stm.firstOf t (Stm.shortN.drop (n + 1)) (n + 1) = Stm.firstOf t Stm.shortN 0) := by rw [← hn1.out, hst.out]; rfl
        clear hst hn1 hok
        go_wp2_with fail
        all_goals (try (exfalso; omega))
        go_quiet ((go_at_call 95; first | (with_reducible exact HPF.out _ _)))
        go_wp2_with fail
        go_roundw
        case rel => exact ⟨n + 1, by omega, by go_num, hnx, A.out.drewN _⟩
        case measure => simp [intOf]; omega
      · have hfo : Hid (Stm.firstOf ((L s).drop st.at_) (Stm.namesOf 0) 0 = some (n, L x)) := by
          rw [ha0.out, ht.out, show Stm.namesOf 0 = Stm.shortN from rfl, ← hn1.out, hst.out]; rfl
        have hr : Hid (R = (Stm.setName 0 n { st with at_ := a0 + x.size }, true)) := by
          rw [← hR.out, step_name_some hfo.out, L_length, ha0.out]; rfl
        have hle : a0 + x.size ≤ s.size := by
          have := first_le (L s) st.at_ 0 n (L x) hfo.out (by rw [ha0.out, L_length]; exact hat)
          rw [ha0.out, L_length, L_length] at this; exact this
        have hlei : (a0 : Int) + (x.size : Int) ≤ s.size := by omega
        have A2 : Hid (∀ r, Rd w ((wr.drewN r).setCell ⟨b, 1, none⟩ (.int .i64 ((a0 : Int) + x.size))) b s { st with at_ := a0 + x.size }) := fun r => (A.out.drewN r).set 1 (by decide) _ rfl
        clear hst hn1 hok hfo
        go_wp2_with fail
        all_goals (try (exfalso; omega))
        go_quiet ((go_at_call 95; first | (with_reducible exact HPF.out _ _)))
        go_wp2_with fail
        all_goals (try (exfalso; omega))
        refine (set_wd b s { st with at_ := a0 + x.size } n _ (A2.out _).cells).mono ?_; rintro e' w1 ⟨rfl, hR1⟩
        have A1 := Lib.hid ((A2.out _).trans hR1)
        go_wp2_with fail
        go_ret
        exact Took.of hr A1.out
    · obtain rfl : n = 7 := by omega
      have hfo : Hid (Stm.firstOf ((L s).drop st.at_) (Stm.namesOf 0) 0 = none) := by
        rw [ha0.out, ht.out, show Stm.namesOf 0 = Stm.shortN from rfl, ← hn1.out]; rfl
      have hr : Hid (R = (st, false)) := by rw [← hR.out, step_name_none hfo.out]; rfl
      clear hn1
      go_wp2_with fail
      all_goals (try (exfalso; omega))
      go_ret
      exact Took.of hr A.out

set_option maxRecDepth 100000 in
theorem name1_any (b c1 c2 c3 : Nat) (s : ByteArray) (st : Stm.St) (w : World) (hE : EnvS w) (h : CellsAt w b (rdCells s st)) (hb6 : 9 ≤ b)
    (hc1 : w.cell? ⟨c1, 0, none⟩ = some (.slice (some ⟨0, 0, none⟩) 7 7)) (hc2 : w.cell? ⟨c2, 0, none⟩ = some (.int .i64 0)) (hc3 : w.cell? ⟨c3, 0, none⟩ = some (.func (.func 179) #[] #[]))
    (_n1 : c1 ≠ b) (_l1 : c1 < w.heap.size) (n2 : c2 ≠ b) (l2 : c2 < w.heap.size) (n3 : c3 ≠ b) (l3 : c3 < w.heap.size) (hs : s.size ≤ 1099511627) (hat : st.at_ ≤ s.size) :
    Calls Tryz.prog 221 #[.pointer (some ⟨b, 0, none⟩), .pointer (some ⟨c1, 0, none⟩), .pointer (some ⟨c2, 0, none⟩), .pointer (some ⟨c3, 0, none⟩)] w (Took w b s (Stm.stepP (L s) (.name 1) st)) := by
  obtain ⟨R, hR⟩ := name_it (Stm.stepP (L s) (.name 1) st)
  rw [hR.out]
  obtain ⟨t, ht⟩ := name_it ((L s).drop st.at_)
  have HS := Lib.hid (Rd.start h)
  have HE := Lib.hid hE
  have H6 := Lib.hid hb6
  have s0 := HS.out.s
  have s1 := HS.out.at
  obtain ⟨a0, ha0⟩ := name_it st.at_
  rw [ha0.out] at s1 hat ht
  have hai : (a0 : Int) ≤ s.size := by omega
  have hex : L (s.extract a0 s.size) = t := by rw [extract_tail, L_bs]; exact ht.out
  have HX := Lib.hid hex
  clear hex h hE hb6
  go_enter Tryz.func221, Tryz.ntmps221
  go_wp2_with fail
  go_loopw [6, 7, 10] (fun _ _ i wq => ∃ n : Nat, n ≤ 7 ∧ i = .int .i64 n ∧ Hid (Stm.firstOf t (Stm.longN.drop n) n = Stm.firstOf t Stm.longN 0) ∧ Hid (Rd w wq b s st)) (fun _ _ i _ => 7 - (intOf i).toNat)
  case atStart => exact ⟨0, by omega, rfl, rfl, HS⟩
  case round =>
    obtain ⟨n, hn, rfl, hn1, A⟩ := hrel
    have q2 : wr.cell? ⟨c2, 0, none⟩ = some (.int .i64 0) := by rw [A.out.but.cell c2 0 n2 l2]; exact hc2
    have q3 : wr.cell? ⟨c3, 0, none⟩ = some (.func (.func 179) #[] #[]) := by rw [A.out.but.cell c3 0 n3 l3]; exact hc3
    have hs0 := A.out.s
    have hs1 := A.out.at
    have g1 := A.out.cells.free 1
    rw [ha0.out] at hs1
    by_cases hlt : n < 7
    · have hni : (n : Int) < 7 := by omega
      have hst := Lib.hid (first_step t Stm.longN n hlt)
      have l9 := long_len n
      have hcell := (HE.out.but A.out.but A.out.below H6.out).week n hlt
      obtain ⟨x, hx⟩ := name_it (bs (Stm.longN.getD n []))
      rw [hx.out] at hcell
      have zx : x.size ≤ 9 := by rw [← hx.out, size_bs]; exact l9
      have hLx : Hid (Stm.longN.getD n [] = L x) := by rw [← hx.out]; rfl
      clear l9
      rw [hLx.out] at hst
      obtain ⟨ok, hok⟩ := name_it ((L x).isPrefixOf t)
      rw [hok.out] at hst
      have hpf : ∀ (wx : World) (q : Nat), Calls Tryz.prog 95 #[.string (s.extract a0 s.size), .string x] (wx.drewN q) fun e w' => e = .returned (.bool ok) ∧ ∃ m, w' = wx.drewN m := by
        intro wx q
        have hv : Lib.hasPrefix (s.extract a0 s.size).data.toList x.data.toList = ok := by
          rw [← hok.out, ← HX.out]; rfl
        rw [← hv]
        exact Calls.quiet_of_same (Tryz.strings_HasPrefix _ _ _)
      have HPF := Lib.hid hpf
      clear hpf hx
      cases ok
      · have hnx : Hid (Stm.firstOf t (Stm.longN.drop (n + 1)) (n + 1) = Stm.firstOf t Stm.longN 0) := by rw [← hn1.out, hst.out]; rfl
        clear hst hn1 hok
        go_wp2_with fail
        all_goals (try (exfalso; omega))
        go_quiet ((go_at_call 95; first | (with_reducible exact HPF.out _ _)))
        go_wp2_with fail
        go_roundw
        case rel => exact ⟨n + 1, by omega, by go_num, hnx, A.out.drewN _⟩
        case measure => simp [intOf]; omega
      · have hfo : Hid (Stm.firstOf ((L s).drop st.at_) (Stm.namesOf 1) 0 = some (n, L x)) := by
          rw [ha0.out, ht.out, show Stm.namesOf 1 = Stm.longN from rfl, ← hn1.out, hst.out]; rfl
        have hr : Hid (R = (Stm.setName 1 n { st with at_ := a0 + x.size }, true)) := by
          rw [← hR.out, step_name_some hfo.out, L_length, ha0.out]; rfl
        have hle : a0 + x.size ≤ s.size := by
          have := first_le (L s) st.at_ 1 n (L x) hfo.out (by rw [ha0.out, L_length]; exact hat)
          rw [ha0.out, L_length, L_length] at this; exact this
        have hlei : (a0 : Int) + (x.size : Int) ≤ s.size := by omega
        have A2 : Hid (∀ r, Rd w ((wr.drewN r).setCell ⟨b, 1, none⟩ (.int .i64 ((a0 : Int) + x.size))) b s { st with at_ := a0 + x.size }) := fun r => (A.out.drewN r).set 1 (by decide) _ rfl
        clear hst hn1 hok hfo
        go_wp2_with fail
        all_goals (try (exfalso; omega))
        go_quiet ((go_at_call 95; first | (with_reducible exact HPF.out _ _)))
        go_wp2_with fail
        all_goals (try (exfalso; omega))
        refine (set_wd b s { st with at_ := a0 + x.size } n _ (A2.out _).cells).mono ?_; rintro e' w1 ⟨rfl, hR1⟩
        have A1 := Lib.hid ((A2.out _).trans hR1)
        go_wp2_with fail
        go_ret
        exact Took.of hr A1.out
    · obtain rfl : n = 7 := by omega
      have hfo : Hid (Stm.firstOf ((L s).drop st.at_) (Stm.namesOf 1) 0 = none) := by
        rw [ha0.out, ht.out, show Stm.namesOf 1 = Stm.longN from rfl, ← hn1.out]; rfl
      have hr : Hid (R = (st, false)) := by rw [← hR.out, step_name_none hfo.out]; rfl
      clear hn1
      go_wp2_with fail
      all_goals (try (exfalso; omega))
      go_ret
      exact Took.of hr A.out

set_option maxRecDepth 100000 in
theorem name2_any (b c1 c2 c3 : Nat) (s : ByteArray) (st : Stm.St) (w : World) (hE : EnvS w) (h : CellsAt w b (rdCells s st)) (hb6 : 9 ≤ b)
    (hc1 : w.cell? ⟨c1, 0, none⟩ = some (.slice (some ⟨1, 0, none⟩) 12 12)) (hc2 : w.cell? ⟨c2, 0, none⟩ = some (.int .i64 0)) (hc3 : w.cell? ⟨c3, 0, none⟩ = some (.func (.func 181) #[] #[]))
    (_n1 : c1 ≠ b) (_l1 : c1 < w.heap.size) (n2 : c2 ≠ b) (l2 : c2 < w.heap.size) (n3 : c3 ≠ b) (l3 : c3 < w.heap.size) (hs : s.size ≤ 1099511627) (hat : st.at_ ≤ s.size) :
    Calls Tryz.prog 221 #[.pointer (some ⟨b, 0, none⟩), .pointer (some ⟨c1, 0, none⟩), .pointer (some ⟨c2, 0, none⟩), .pointer (some ⟨c3, 0, none⟩)] w (Took w b s (Stm.stepP (L s) (.name 2) st)) := by
  obtain ⟨R, hR⟩ := name_it (Stm.stepP (L s) (.name 2) st)
  rw [hR.out]
  obtain ⟨t, ht⟩ := name_it ((L s).drop st.at_)
  have HS := Lib.hid (Rd.start h)
  have HE := Lib.hid hE
  have H6 := Lib.hid hb6
  have s0 := HS.out.s
  have s1 := HS.out.at
  obtain ⟨a0, ha0⟩ := name_it st.at_
  rw [ha0.out] at s1 hat ht
  have hai : (a0 : Int) ≤ s.size := by omega
  have hex : L (s.extract a0 s.size) = t := by rw [extract_tail, L_bs]; exact ht.out
  have HX := Lib.hid hex
  clear hex h hE hb6
  go_enter Tryz.func221, Tryz.ntmps221
  go_wp2_with fail
  go_loopw [6, 7, 10] (fun _ _ i wq => ∃ n : Nat, n ≤ 12 ∧ i = .int .i64 n ∧ Hid (Stm.firstOf t (Stm.monN.drop n) n = Stm.firstOf t Stm.monN 0) ∧ Hid (Rd w wq b s st)) (fun _ _ i _ => 12 - (intOf i).toNat)
  case atStart => exact ⟨0, by omega, rfl, rfl, HS⟩
  case round =>
    obtain ⟨n, hn, rfl, hn1, A⟩ := hrel
    have q2 : wr.cell? ⟨c2, 0, none⟩ = some (.int .i64 0) := by rw [A.out.but.cell c2 0 n2 l2]; exact hc2
    have q3 : wr.cell? ⟨c3, 0, none⟩ = some (.func (.func 181) #[] #[]) := by rw [A.out.but.cell c3 0 n3 l3]; exact hc3
    have hs0 := A.out.s
    have hs1 := A.out.at
    have g1 := A.out.cells.free 1
    rw [ha0.out] at hs1
    by_cases hlt : n < 12
    · have hni : (n : Int) < 12 := by omega
      have hst := Lib.hid (first_step t Stm.monN n hlt)
      have l9 := mon_len n
      have hcell := (HE.out.but A.out.but A.out.below H6.out).mon n hlt
      obtain ⟨x, hx⟩ := name_it (bs (Stm.monN.getD n []))
      rw [hx.out] at hcell
      have zx : x.size ≤ 9 := by rw [← hx.out, size_bs]; exact l9
      have hLx : Hid (Stm.monN.getD n [] = L x) := by rw [← hx.out]; rfl
      clear l9
      rw [hLx.out] at hst
      obtain ⟨ok, hok⟩ := name_it ((L x).isPrefixOf t)
      rw [hok.out] at hst
      have hpf : ∀ (wx : World) (q : Nat), Calls Tryz.prog 95 #[.string (s.extract a0 s.size), .string x] (wx.drewN q) fun e w' => e = .returned (.bool ok) ∧ ∃ m, w' = wx.drewN m := by
        intro wx q
        have hv : Lib.hasPrefix (s.extract a0 s.size).data.toList x.data.toList = ok := by
          rw [← hok.out, ← HX.out]; rfl
        rw [← hv]
        exact Calls.quiet_of_same (Tryz.strings_HasPrefix _ _ _)
      have HPF := Lib.hid hpf
      clear hpf hx
      cases ok
      · have hnx : Hid (Stm.firstOf t (Stm.monN.drop (n + 1)) (n + 1) = Stm.firstOf t Stm.monN 0) := by rw [← hn1.out, hst.out]; rfl
        clear hst hn1 hok
        go_wp2_with fail
        all_goals (try (exfalso; omega))
        go_quiet ((go_at_call 95; first | (with_reducible exact HPF.out _ _)))
        go_wp2_with fail
        go_roundw
        case rel => exact ⟨n + 1, by omega, by go_num, hnx, A.out.drewN _⟩
        case measure => simp [intOf]; omega
      · have hfo : Hid (Stm.firstOf ((L s).drop st.at_) (Stm.namesOf 2) 0 = some (n, L x)) := by
          rw [ha0.out, ht.out, show Stm.namesOf 2 = Stm.monN from rfl, ← hn1.out, hst.out]; rfl
        have hr : Hid (R = (Stm.setName 2 n { st with at_ := a0 + x.size }, true)) := by
          rw [← hR.out, step_name_some hfo.out, L_length, ha0.out]; rfl
        have hle : a0 + x.size ≤ s.size := by
          have := first_le (L s) st.at_ 2 n (L x) hfo.out (by rw [ha0.out, L_length]; exact hat)
          rw [ha0.out, L_length, L_length] at this; exact this
        have hlei : (a0 : Int) + (x.size : Int) ≤ s.size := by omega
        have A2 : Hid (∀ r, Rd w ((wr.drewN r).setCell ⟨b, 1, none⟩ (.int .i64 ((a0 : Int) + x.size))) b s { st with at_ := a0 + x.size }) := fun r => (A.out.drewN r).set 1 (by decide) _ rfl
        clear hst hn1 hok hfo
        go_wp2_with fail
        all_goals (try (exfalso; omega))
        go_quiet ((go_at_call 95; first | (with_reducible exact HPF.out _ _)))
        go_wp2_with fail
        all_goals (try (exfalso; omega))
        refine (set_mo b s { st with at_ := a0 + x.size } n _ (A2.out _).cells (by omega)).mono ?_; rintro e' w1 ⟨rfl, hR1⟩
        have A1 := Lib.hid ((A2.out _).trans hR1)
        go_wp2_with fail
        go_ret
        exact Took.of hr A1.out
    · obtain rfl : n = 12 := by omega
      have hfo : Hid (Stm.firstOf ((L s).drop st.at_) (Stm.namesOf 2) 0 = none) := by
        rw [ha0.out, ht.out, show Stm.namesOf 2 = Stm.monN from rfl, ← hn1.out]; rfl
      have hr : Hid (R = (st, false)) := by rw [← hR.out, step_name_none hfo.out]; rfl
      clear hn1
      go_wp2_with fail
      all_goals (try (exfalso; omega))
      go_ret
      exact Took.of hr A.out
end Go.Proofs.YtkenianfpfamcaaGreatDoor
namespace Go.Proofs.YtkenianfpfamcaaGreatDoor
open Go Go.RowKit
set_option maxHeartbeats 2000000

set_option maxRecDepth 100000 in
theorem formOf_any (s : ByteArray) (w : World) (hE : EnvS w) (_hs : s.size ≤ 1099511627) :
    Calls Tryz.prog 144 #[.string s] w fun e w' => e = .returned (.int .i64 (Stm.formOf (L s))) ∧ w = w' := by
  obtain ⟨R, hR⟩ := name_it (Stm.formOf (L s))
  rw [hR.out]
  obtain ⟨X, hX⟩ : ∃ X : Nat → ByteArray, Hid (∀ j, bs (Stm.longN.getD j []) = X j) := ⟨_, fun _ => rfl⟩
  have e0 := hE.week 0 (by decide)
  have e1 := hE.week 1 (by decide)
  have e2 := hE.week 2 (by decide)
  have e3 := hE.week 3 (by decide)
  have e4 := hE.week 4 (by decide)
  have e5 := hE.week 5 (by decide)
  have e6 := hE.week 6 (by decide)
  rw [hX.out] at e0 e1 e2 e3 e4 e5 e6
  have hi0 : ∀ w, (Instr.index 174 (.agg #[.string (X 0), .string (X 1), .string (X 2), .string (X 3), .string (X 4), .string (X 5), .string (X 6)]) (.int .i64 0)).run Tryz.prog w = .ok (.string (X 0)) w := fun _ => by kernel_rfl
  have hi1 : ∀ w, (Instr.index 174 (.agg #[.string (X 0), .string (X 1), .string (X 2), .string (X 3), .string (X 4), .string (X 5), .string (X 6)]) (.int .i64 1)).run Tryz.prog w = .ok (.string (X 1)) w := fun _ => by kernel_rfl
  have hi2 : ∀ w, (Instr.index 174 (.agg #[.string (X 0), .string (X 1), .string (X 2), .string (X 3), .string (X 4), .string (X 5), .string (X 6)]) (.int .i64 2)).run Tryz.prog w = .ok (.string (X 2)) w := fun _ => by kernel_rfl
  have hi3 : ∀ w, (Instr.index 174 (.agg #[.string (X 0), .string (X 1), .string (X 2), .string (X 3), .string (X 4), .string (X 5), .string (X 6)]) (.int .i64 3)).run Tryz.prog w = .ok (.string (X 3)) w := fun _ => by kernel_rfl
  have hi4 : ∀ w, (Instr.index 174 (.agg #[.string (X 0), .string (X 1), .string (X 2), .string (X 3), .string (X 4), .string (X 5), .string (X 6)]) (.int .i64 4)).run Tryz.prog w = .ok (.string (X 4)) w := fun _ => by kernel_rfl
  have hi5 : ∀ w, (Instr.index 174 (.agg #[.string (X 0), .string (X 1), .string (X 2), .string (X 3), .string (X 4), .string (X 5), .string (X 6)]) (.int .i64 5)).run Tryz.prog w = .ok (.string (X 5)) w := fun _ => by kernel_rfl
  have hi6 : ∀ w, (Instr.index 174 (.agg #[.string (X 0), .string (X 1), .string (X 2), .string (X 3), .string (X 4), .string (X 5), .string (X 6)]) (.int .i64 6)).run Tryz.prog w = .ok (.string (X 6)) w := fun _ => by kernel_rfl
  clear hE
  go_enter Tryz.func144, Tryz.ntmps144
  go_wp2_with fail
  go_loop [4, 6, 9, 15] (fun _ i _ _ => ∃ k : Nat, k ≤ 7 ∧ i = .int .i64 k ∧ Hid (Stm.formFrom (L s) (Stm.longN.drop k) = R)) (fun _ i _ _ => 7 - (intOf i).toNat)
  case atStart => exact ⟨0, by omega, rfl, hR⟩
  case round =>
    obtain ⟨k, hk, rfl, hk1⟩ := hrel
    by_cases hlt : k < 7
    · have hst := Lib.hid (formFrom_step (L s) k hlt)
      have hso := short_of k hlt
      have l2 := long_len k
      have E1 : Hid (bs (Stm.shortN.getD k []) ++ ⟨#[44]⟩ = bs (Stm.shortN.getD k [] ++ [44])) := by unfold Hid; apply L_inj.1; simp [L, bs, ByteArray.data_append]
      have E2 : Hid (X k ++ ⟨#[44]⟩ = bs (Stm.longN.getD k [] ++ [44])) := by rw [← hX.out]; unfold Hid; apply L_inj.1; simp [L, bs, ByteArray.data_append]
      rw [hso.1, hX.out] at E1
      have z3 : (3 : Int) ≤ (X k).size := by have := hso.2; rw [hX.out] at this; exact this
      have z9 : (X k).size ≤ 9 := by rw [← hX.out, size_bs]; exact l2
      obtain ⟨b1, hb1⟩ := name_it ((Stm.shortN.getD k [] ++ [44]).isPrefixOf (L s))
      obtain ⟨b2, hb2⟩ := name_it ((Stm.longN.getD k [] ++ [44]).isPrefixOf (L s))
      rw [hb1.out, hb2.out] at hst
      obtain ⟨y, hy⟩ := name_it ((X k).extract 0 3)
      have zy : y.size ≤ 9 := by rw [← hy.out, ByteArray.size_extract]; omega
      rw [hy.out] at E1
      have hy' : (X k).extract 0 3 = y := hy.out
      have c1 : ∀ w, Calls Tryz.prog 95 #[.string s, .string (y ++ ⟨#[44]⟩)] w fun e w' => e = .returned (.bool b1) ∧ w = w' := by
        intro w
        rw [E1.out, ← hb1.out]
        exact (Tryz.strings_HasPrefix _ _ _).mono fun e w' ⟨h1, h2⟩ => ⟨h1, h2.symm⟩
      have c2 : ∀ w, Calls Tryz.prog 95 #[.string s, .string (X k ++ ⟨#[44]⟩)] w fun e w' => e = .returned (.bool b2) ∧ w = w' := by
        intro w
        rw [E2.out, ← hb2.out]
        exact (Tryz.strings_HasPrefix _ _ _).mono fun e w' ⟨h1, h2⟩ => ⟨h1, h2.symm⟩
      have C1 := Lib.hid c1
      have C2 := Lib.hid c2
      have hnx : Hid (b1 = false → b2 = false → Stm.formFrom (L s) (Stm.longN.drop (k + 1)) = R) := by
        rintro rfl rfl; rw [← hk1.out, hst.out]; rfl
      have hr1 : Hid (b1 = false → b2 = true → R = 1) := by rintro rfl rfl; rw [← hk1.out, hst.out]; rfl
      have hr0 : Hid (b1 = true → R = 0) := by rintro rfl; rw [← hk1.out, hst.out]; rfl
      clear c1 c2 hst E1 E2 hso l2 hb1 hb2 hk1 hy
      have h7 : k = 0 ∨ k = 1 ∨ k = 2 ∨ k = 3 ∨ k = 4 ∨ k = 5 ∨ k = 6 := by omega
      rcases h7 with rfl | rfl | rfl | rfl | rfl | rfl | rfl
      all_goals
        go_wp2_with fail
        all_goals (try (exfalso; omega))
        refine (C1.out _).mono ?_; rintro e w1 ⟨rfl, rfl⟩
        cases b1
        · go_wp2_with fail
          all_goals (try (exfalso; omega))
          refine (C2.out _).mono ?_; rintro e w1 ⟨rfl, rfl⟩
          cases b2
          · go_wp2_with fail
            go_round
            case rel =>
              refine ⟨_, ?_, ?_, hnx.out (by first | trivial | rfl) (by first | trivial | rfl)⟩
              · omega
              · go_num
            case measure => simp [intOf]
          · have hr : Hid (R = 1) := hr1.out (by first | trivial | rfl) (by first | trivial | rfl)
            go_wp2_with fail
            go_ret
            exact ⟨by rw [hr.out]; rfl, rfl⟩
        · have hr : Hid (R = 0) := hr0.out (by first | trivial | rfl)
          go_wp2_with fail
          go_ret
          exact ⟨by rw [hr.out]; rfl, rfl⟩
    · obtain rfl : k = 7 := by omega
      have hr : Hid (R = 2) := by rw [← hk1.out]; rfl
      go_wp2_with fail
      go_ret
      exact ⟨by rw [hr.out]; rfl, rfl⟩
end Go.Proofs.YtkenianfpfamcaaGreatDoor
