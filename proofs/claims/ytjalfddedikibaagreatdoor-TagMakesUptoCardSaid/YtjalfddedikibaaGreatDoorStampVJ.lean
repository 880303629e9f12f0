/- stamp's reader: its cells; what the closures that set its fields do. -/
import Derived.Test.YtjalfddedikibaaGreatDoorMo
namespace Go.Proofs.YtjalfddedikibaaGreatDoor
open Go Go.RowKit
set_option maxHeartbeats 2000000

/-- nothing of old memory but block b has turned -/
structure But (b : Nat) (w w' : World) : Prop where
  size : w.heap.size ≤ w'.heap.size
  cell : ∀ c o, c ≠ b → c < w.heap.size → w'.cell? ⟨c, o, none⟩ = w.cell? ⟨c, o, none⟩
  frozen : ∀ c o, c ≠ b → c < w.heap.size → w'.frozen? ⟨c, o, none⟩ = w.frozen? ⟨c, o, none⟩
theorem But.refl (b : Nat) (w : World) : But b w w := ⟨Nat.le_refl _, fun _ _ _ _ => rfl, fun _ _ _ _ => rfl⟩
theorem But.trans {b : Nat} {w w1 w2 : World} (h : But b w w1) (k : But b w1 w2) : But b w w2 :=
  ⟨Nat.le_trans h.size k.size, fun c o hc hl => (k.cell c o hc (Nat.lt_of_lt_of_le hl h.size)).trans (h.cell c o hc hl), fun c o hc hl => (k.frozen c o hc (Nat.lt_of_lt_of_le hl h.size)).trans (h.frozen c o hc hl)⟩
theorem But.of_below {b : Nat} {w w1 : World} (h : Below w.heap.size w w1) : But b w w1 :=
  ⟨h.size, fun c o _ hl => h.cell (p := ⟨c, o, none⟩) hl, fun c o _ hl => h.frozen (p := ⟨c, o, none⟩) hl⟩
theorem But.set {b : Nat} (w : World) (o : Nat) (v : Value) : But b w (w.setCell ⟨b, o, none⟩ v) :=
  ⟨by rw [World.size_setCell]; exact Nat.le_refl _, fun c o' hc _ => World.cell?_setCell_other _ _ _ _ (by intro h; injection h with h1; exact hc h1.symm), fun c o' _ _ => World.frozen?_setCell _ _ _ _⟩
theorem CellsAt.but {b c : Nat} {w w' : World} {cs : List Value} (h : CellsAt w c cs) (k : But b w w') (hc : c ≠ b) : CellsAt w' c cs where
  cell j hj := by rw [k.cell c j hc h.lt]; exact h.cell j hj
  free j := by rw [k.frozen c j hc h.lt]; exact h.free j
  lt := Nat.lt_of_lt_of_le h.lt k.size
theorem CellsAt.drewN {c : Nat} {w : World} {cs : List Value} (h : CellsAt w c cs) (n : Nat) : CellsAt (w.drewN n) c cs := h.next (below_of_drewN n)

/-- a reader's cells -/
def rdCells (s : ByteArray) (st : Stm.St) : List Value :=
  [.string s, .int .i64 st.at_, .int .i64 st.yr, .int .i64 st.mo, .int .i64 st.dy, .int .i64 st.hh, .int .i64 st.mi, .int .i64 st.ss, .int .i64 st.wd, .int .i64 st.dyAt, .int .i64 st.yrAt, .int .i64 st.hhAt]
/-- a reader stands in block b -/
structure Rd (w0 w : World) (b : Nat) (s : ByteArray) (st : Stm.St) : Prop where
  cells : CellsAt w b (rdCells s st)
  but : But b w0 w
  below : Below b w0 w
theorem Rd.drewN {w0 w : World} {b : Nat} {s : ByteArray} {st : Stm.St} (h : Rd w0 w b s st) (n : Nat) : Rd w0 (w.drewN n) b s st :=
  ⟨h.cells.drewN n, h.but.trans (But.of_below (below_of_drewN n)), below_drewN h.below n⟩
theorem Rd.next {w0 w w' : World} {b : Nat} {s : ByteArray} {st : Stm.St} (h : Rd w0 w b s st) (hb : Below w.heap.size w w') : Rd w0 w' b s st :=
  ⟨h.cells.next hb, h.but.trans (But.of_below hb), h.below.trans (hb.mono (Nat.le_of_lt h.cells.lt))⟩
theorem Rd.start {w : World} {b : Nat} {s : ByteArray} {st : Stm.St} (h : CellsAt w b (rdCells s st)) : Rd w w b s st := ⟨h, But.refl _ _, Below.refl _ _⟩
theorem Rd.trans {w0 w w' : World} {b : Nat} {s : ByteArray} {st st' : Stm.St} (h : Rd w0 w b s st) (k : Rd w w' b s st') : Rd w0 w' b s st' :=
  ⟨k.cells, h.but.trans k.but, h.below.trans k.below⟩
theorem Rd.set {w0 w : World} {b : Nat} {s : ByteArray} {st st' : Stm.St} (h : Rd w0 w b s st) (o : Nat) (ho : o < 12) (v : Value) (e : (rdCells s st).set o v = rdCells s st') : Rd w0 (w.setCell ⟨b, o, none⟩ v) b s st' :=
  ⟨e ▸ h.cells.set o (by simpa [rdCells] using ho) v, h.but.trans (But.set w o v), h.below.setCell (p := ⟨b, o, none⟩) (Nat.le_refl _) v⟩
theorem Rd.s {w0 w : World} {b : Nat} {s : ByteArray} {st : Stm.St} (h : Rd w0 w b s st) : w.cell? ⟨b, 0, none⟩ = some (.string s) := h.cells.cell 0 (by simp [rdCells])
theorem Rd.at {w0 w : World} {b : Nat} {s : ByteArray} {st : Stm.St} (h : Rd w0 w b s st) : w.cell? ⟨b, 1, none⟩ = some (.int .i64 st.at_) := h.cells.cell 1 (by simp [rdCells])
/-- how a call that sets fields ends -/
def Sets (w0 : World) (b : Nat) (s : ByteArray) (st : Stm.St) (e : Ending) (w' : World) : Prop := e = .returned (.tuple #[]) ∧ Rd w0 w' b s st

theorem set_wd (b : Nat) (s : ByteArray) (st : Stm.St) (n : Nat) (w : World) (h : CellsAt w b (rdCells s st)) :
    Calls Tryz.prog 104 #[.pointer (some ⟨b, 0, none⟩), .int .i64 n] w (Sets w b s (Stm.setName 0 n st)) := by
  have c := h.cell 8 (by simp [rdCells])
  have g := h.free 8
  simp only [rdCells, List.getElem_cons_zero, List.getElem_cons_succ] at c
  have H := Lib.hid (Rd.start h)
  clear h
  go_enter Tryz.func104, Tryz.ntmps104
  go_wp2_with fail
  refine bodyPost_end (results_none rfl _ _ _) rfl ?_
  exact ⟨rfl, H.out.set 8 (by decide) _ rfl⟩
theorem set_mo (b : Nat) (s : ByteArray) (st : Stm.St) (n : Nat) (w : World) (h : CellsAt w b (rdCells s st)) (hn : n ≤ 1000) :
    Calls Tryz.prog 106 #[.pointer (some ⟨b, 0, none⟩), .int .i64 n] w (Sets w b s (Stm.setName 2 n st)) := by
  have c := h.cell 3 (by simp [rdCells])
  have g := h.free 3
  simp only [rdCells, List.getElem_cons_zero, List.getElem_cons_succ] at c
  have H := Lib.hid (Rd.start h)
  clear h
  go_enter Tryz.func106, Tryz.ntmps106
  go_wp2_with fail
  refine bodyPost_end (results_none rfl _ _ _) rfl ?_
  exact ⟨rfl, H.out.set 3 (by decide) _ rfl⟩
theorem set_d0 (b : Nat) (s : ByteArray) (st : Stm.St) (v : Int) (a : Nat) (w : World) (h : CellsAt w b (rdCells s st)) :
    Calls Tryz.prog 109 #[.pointer (some ⟨b, 0, none⟩), .int .i64 v, .int .i64 a] w (Sets w b s (Stm.setDig 0 v a st)) := by
  have c := h.cell 4 (by simp [rdCells])
  have g := h.free 4
  have c2 := h.cell 9 (by simp [rdCells])
  have g2 := h.free 9
  simp only [rdCells, List.getElem_cons_zero, List.getElem_cons_succ] at c c2
  have H := Lib.hid (Rd.start h)
  clear h
  go_enter Tryz.func109, Tryz.ntmps109
  go_wp2_with fail
  refine bodyPost_end (results_none rfl _ _ _) rfl ?_
  have H1 := H.out.set (st' := { (Stm.setDig 0 v a st) with dyAt := st.dyAt }) 4 (by decide) (.int .i64 v) rfl
  exact ⟨rfl, H1.set 9 (by decide) _ rfl⟩
theorem set_d1 (b : Nat) (s : ByteArray) (st : Stm.St) (v : Int) (a : Nat) (w : World) (h : CellsAt w b (rdCells s st)) :
    Calls Tryz.prog 111 #[.pointer (some ⟨b, 0, none⟩), .int .i64 v, .int .i64 a] w (Sets w b s (Stm.setDig 1 v a st)) := by
  have c := h.cell 2 (by simp [rdCells])
  have g := h.free 2
  have c2 := h.cell 10 (by simp [rdCells])
  have g2 := h.free 10
  simp only [rdCells, List.getElem_cons_zero, List.getElem_cons_succ] at c c2
  have H := Lib.hid (Rd.start h)
  clear h
  go_enter Tryz.func111, Tryz.ntmps111
  go_wp2_with fail
  refine bodyPost_end (results_none rfl _ _ _) rfl ?_
  have H1 := H.out.set (st' := { (Stm.setDig 1 v a st) with yrAt := st.yrAt }) 2 (by decide) (.int .i64 v) rfl
  exact ⟨rfl, H1.set 10 (by decide) _ rfl⟩
theorem set_d2 (b : Nat) (s : ByteArray) (st : Stm.St) (v : Int) (a : Nat) (w : World) (h : CellsAt w b (rdCells s st)) :
    Calls Tryz.prog 112 #[.pointer (some ⟨b, 0, none⟩), .int .i64 v, .int .i64 a] w (Sets w b s (Stm.setDig 2 v a st)) := by
  have c := h.cell 5 (by simp [rdCells])
  have g := h.free 5
  have c2 := h.cell 11 (by simp [rdCells])
  have g2 := h.free 11
  simp only [rdCells, List.getElem_cons_zero, List.getElem_cons_succ] at c c2
  have H := Lib.hid (Rd.start h)
  clear h
  go_enter Tryz.func112, Tryz.ntmps112
  go_wp2_with fail
  refine bodyPost_end (results_none rfl _ _ _) rfl ?_
  have H1 := H.out.set (st' := { (Stm.setDig 2 v a st) with hhAt := st.hhAt }) 5 (by decide) (.int .i64 v) rfl
  exact ⟨rfl, H1.set 11 (by decide) _ rfl⟩
theorem set_d3 (b : Nat) (s : ByteArray) (st : Stm.St) (v : Int) (a : Nat) (w : World) (h : CellsAt w b (rdCells s st)) :
    Calls Tryz.prog 114 #[.pointer (some ⟨b, 0, none⟩), .int .i64 v, .int .i64 a] w (Sets w b s (Stm.setDig 3 v a st)) := by
  have c := h.cell 6 (by simp [rdCells])
  have g := h.free 6
  simp only [rdCells, List.getElem_cons_zero, List.getElem_cons_succ] at c
  have H := Lib.hid (Rd.start h)
  clear h
  go_enter Tryz.func114, Tryz.ntmps114
  go_wp2_with fail
  refine bodyPost_end (results_none rfl _ _ _) rfl ?_
  exact ⟨rfl, H.out.set 6 (by decide) _ rfl⟩
theorem set_d4 (b : Nat) (s : ByteArray) (st : Stm.St) (v : Int) (a : Nat) (w : World) (h : CellsAt w b (rdCells s st)) :
    Calls Tryz.prog 115 #[.pointer (some ⟨b, 0, none⟩), .int .i64 v, .int .i64 a] w (Sets w b s (Stm.setDig 4 v a st)) := by
  have c := h.cell 7 (by simp [rdCells])
  have g := h.free 7
  simp only [rdCells, List.getElem_cons_zero, List.getElem_cons_succ] at c
  have H := Lib.hid (Rd.start h)
  clear h
  go_enter Tryz.func115, Tryz.ntmps115
  go_wp2_with fail
  refine bodyPost_end (results_none rfl _ _ _) rfl ?_
  exact ⟨rfl, H.out.set 7 (by decide) _ rfl⟩

/-- how a piece ends: the reader stands behind it, or at the place that is wrong -/
def Took (w0 : World) (b : Nat) (s : ByteArray) (r : Stm.St × Bool) (e : Ending) (w' : World) : Prop := e = .returned (.bool r.2) ∧ Rd w0 w' b s r.1
theorem Took.of {w0 w' : World} {b : Nat} {s : ByteArray} {q : Stm.St} {ok : Bool} {r : Stm.St × Bool} (hr : Hid (r = (q, ok))) (h : Rd w0 w' b s q) : Took w0 b s r (.returned (.bool ok)) w' := by
  rw [hr.out]; exact ⟨rfl, h⟩
theorem lit_step {s : List UInt8} {t : List UInt8} {i : Nat} (h : i < t.length) (st : Stm.St) : Stm.runP s ((t.drop i).map Stm.Pc.lit) st = if s[st.at_]? = some t[i] then Stm.runP s ((t.drop (i + 1)).map Stm.Pc.lit) { st with at_ := st.at_ + 1 } else (st, false) := by
  rw [List.drop_eq_getElem_cons h, List.map_cons, Stm.runP_cons, step_lit]
  by_cases hc : s[st.at_]? = some t[i]
  · rw [if_pos (decide_eq_true hc), if_pos hc]; rfl
  · rw [if_neg hc]; simp [hc]

set_option maxRecDepth 100000 in
theorem text_any (b c : Nat) (s t : ByteArray) (st : Stm.St) (w : World) (h : CellsAt w b (rdCells s st)) (hc : w.cell? ⟨c, 0, none⟩ = some (.string t)) (hcb : c ≠ b) (hcl : c < w.heap.size) (hs : s.size ≤ 1099511627) (ht : t.size ≤ 100) (hat : st.at_ ≤ s.size) :
    Calls Tryz.prog 134 #[.pointer (some ⟨b, 0, none⟩), .pointer (some ⟨c, 0, none⟩)] w (Took w b s (Stm.runP (L s) ((L t).map Stm.Pc.lit) st)) := by
  obtain ⟨R, hR⟩ := name_it (Stm.runP (L s) ((L t).map Stm.Pc.lit) st)
  rw [hR.out]
  have HS := Lib.hid (Rd.start h)
  have HL := Lib.hid (L_length s)
  clear h
  go_enter Tryz.func134, Tryz.ntmps134
  go_wp2_with fail
  go_loopw [4, 7] (fun _ i wq => ∃ (k : Nat) (q : Stm.St), k ≤ t.size ∧ i = .int .i64 k ∧ q.at_ ≤ s.size ∧ Hid (Stm.runP (L s) (((L t).drop k).map Stm.Pc.lit) q = R) ∧ Hid (Rd w wq b s q)) (fun _ i _ => t.size - (intOf i).toNat)
  case atStart => exact ⟨0, st, Nat.zero_le _, rfl, hat, hR, HS⟩
  case round =>
    obtain ⟨k, q, hk, rfl, hqa, hrun, A⟩ := hrel
    have hcq : wr.cell? ⟨c, 0, none⟩ = some (.string t) := by rw [A.out.but.cell c 0 hcb hcl]; exact hc
    have hs0 := A.out.s
    have hs1 := A.out.at
    have g1 := A.out.cells.free 1
    obtain ⟨a, ha⟩ := name_it q.at_
    rw [ha.out] at hs1 hqa
    have hai : (a : Int) ≤ s.size := by omega
    by_cases hlt : k < t.size
    · have hki : (k : Int) < t.size := by omega
      have hst := Lib.hid (lit_step (s := L s) (t := L t) (by rw [L_length]; exact hlt) q)
      rw [ha.out, L_getElem hlt] at hst
      by_cases hin : a < s.size
      · have hii : (a : Int) < s.size := by omega
        rw [L_get? hin] at hst
        obtain ⟨x, hx⟩ := name_it s[a]
        obtain ⟨y, hy⟩ := name_it t[k]
        rw [hx.out, hy.out] at hst
        have hx' : s[a] = x := hx.out
        have hy' : t[k] = y := hy.out
        by_cases hxy : x = y
        · have e1 : ((x.toNat : Int) == (y.toNat : Int)) = true := by simp [hxy]
          have e2 : ((x.toNat : Int) != (y.toNat : Int)) = false := by simp [hxy]
          have hnx : Hid (Stm.runP (L s) (((L t).drop (k + 1)).map Stm.Pc.lit) { q with at_ := a + 1 } = R) := by rw [← hrun.out, hst.out, if_pos (by rw [hxy])]; rfl
          have A2 : Hid (∀ n, Rd w ((wr.drewN n).setCell ⟨b, 1, none⟩ (.int .i64 ((a : Int) + 1))) b s { q with at_ := a + 1 }) := fun n => (A.out.drewN n).set 1 (by decide) _ rfl
          clear hst hrun hx hy
          go_wp2_with fail
          go_quiet (fail)
          go_wp2_with fail
          go_roundw
          case rel => exact ⟨k + 1, { q with at_ := a + 1 }, by omega, by go_num, hin, hnx, A2.out _⟩
          case measure => simp [intOf]; omega
        · have e1 : ((x.toNat : Int) == (y.toNat : Int)) = false := by
            rw [beq_eq_false_iff_ne]; intro e; exact hxy (UInt8.toNat_inj.1 (by exact_mod_cast e))
          have e2 : ((x.toNat : Int) != (y.toNat : Int)) = true := by simp [bne, e1]
          have hr : Hid (R = (q, false)) := by rw [← hrun.out, hst.out, if_neg (by simpa using hxy)]; rfl
          clear hst hrun hx hy
          go_wp2_with fail
          go_quiet (fail)
          go_wp2_with fail
          go_ret
          exact Took.of hr (A.out.drewN _)
      · have hii : (s.size : Int) ≤ a := by omega
        rw [L_get?_none (by omega)] at hst
        have hr : Hid (R = (q, false)) := by rw [← hrun.out, hst.out, if_neg (by simp)]; rfl
        clear hst hrun
        go_wp2_with fail
        go_quiet (fail)
        go_wp2_with fail
        go_ret
        exact Took.of hr (A.out.drewN _)
    · obtain rfl : k = t.size := by omega
      have hr : Hid (R = (q, true)) := by rw [← hrun.out, L_drop_all]; rfl
      clear hrun
      go_wp2_with fail
      go_ret
      exact Took.of hr A.out
end Go.Proofs.YtjalfddedikibaaGreatDoor
