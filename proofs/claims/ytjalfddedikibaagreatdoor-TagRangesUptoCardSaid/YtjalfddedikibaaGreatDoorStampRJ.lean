/- Contract of the document's read: what a text says in a form. -/
import Derived.Test.YtjalfddedikibaaGreatDoorStampQJ
namespace Go.Proofs.YtjalfddedikibaaGreatDoor
open Go Go.RowKit
set_option maxHeartbeats 4000000

def toPc (c : UInt8) : Stm.Pc :=
  if c = 119 then .name 0 else if c = 108 then .name 1 else if c = 109 then .name 2 else if c = 100 then .dig 2 false 0 else if c = 101 then .dig 2 true 0
  else if c = 121 then .dig 4 false 1 else if c = 99 then .dig 2 false 1 else if c = 104 then .dig 2 false 2 else if c = 105 then .dig 2 false 3 else if c = 115 then .dig 2 false 4 else .lit c
theorem pat_pcs (form : Nat) (h : form < 3) : (patL form).map toPc = Stm.pcs form := by
  have : form = 0 ∨ form = 1 ∨ form = 2 := by omega
  rcases this with rfl | rfl | rfl <;> decide
def foundCells (st : Stm.St) : List Value :=
  [.int .i64 st.wd, .int .i64 st.mo, .int .i64 st.dy, .int .i64 st.yr, .int .i64 st.hh, .int .i64 st.mi, .int .i64 st.ss, .int .i64 st.dyAt, .int .i64 st.yrAt, .int .i64 st.hhAt, .int .i64 st.miAt, .int .i64 st.ssAt]
def readV (r : Stm.St × Bool) (len : Nat) : Value :=
  if r.2 then .tuple #[.agg (foundCells r.1).toArray, .bool (((r.1.at_ : Int)) == (len : Int)), .int .i64 r.1.at_] else .tuple #[.agg (foundCells Stm.st0).toArray, .bool false, .int .i64 r.1.at_]

theorem digs_le (s : List UInt8) : ∀ (w : Nat) (b : Bool) (a : Nat) (v : Int), a ≤ s.length → 0 ≤ v → (Stm.digs s w b a v).1 ≤ s.length ∧ 0 ≤ (Stm.digs s w b a v).2.1
  | 0, b, a, v, h, hv => ⟨h, hv⟩
  | w + 1, b, a, v, h, hv => by
    cases hc : s[a]? with
    | none => rw [digs_none hc]; exact ⟨h, hv⟩
    | some c =>
      have hlt := (List.getElem?_eq_some_iff.1 hc).1
      rw [digs_some hc]
      split
      · exact digs_le s w false (a + 1) _ hlt (by omega)
      · split
        · rename_i hd
          have : 48 ≤ c.toNat := by unfold Stm.isDig at hd; exact (of_decide_eq_true hd).1
          exact digs_le s w false (a + 1) _ hlt (by omega)
        · exact ⟨h, hv⟩
theorem first_le (s : List UInt8) (a k n : Nat) (x : List UInt8) (h : Stm.firstOf (s.drop a) (Stm.namesOf k) 0 = some (n, x)) (ha : a ≤ s.length) : a + x.length ≤ s.length := by
  obtain ⟨i, _, _, hp⟩ := Stm.firstOf_some _ _ _ _ _ h
  rw [List.isPrefixOf_iff_prefix] at hp
  have := hp.length_le
  rw [List.length_drop] at this
  omega
theorem lit_pref (s : List UInt8) (a : Nat) (c : UInt8) : [c].isPrefixOf (s.drop a) = decide (s[a]? = some c) := by
  rw [Bool.eq_iff_iff, decide_eq_true_eq, List.isPrefixOf_iff_prefix]
  constructor
  · rintro ⟨t, ht⟩
    have := congrArg (fun l : List UInt8 => l[0]?) ht
    simpa using this.symm
  · intro h
    obtain ⟨hlt, rfl⟩ := List.getElem?_eq_some_iff.1 h
    exact ⟨s.drop (a + 1), by rw [List.drop_eq_getElem_cons hlt]; rfl⟩
theorem step_lit {s : List UInt8} {c : UInt8} {st : Stm.St} : Stm.stepP s (.lit c) st = if decide (s[st.at_]? = some c) then ({ st with at_ := st.at_ + 1 }, true) else (st, false) := by
  by_cases h : s[st.at_]? = some c <;> simp [Stm.stepP, h]
theorem step_name_none {s : List UInt8} {k : Nat} {st : Stm.St} (h : Stm.firstOf (s.drop st.at_) (Stm.namesOf k) 0 = none) : Stm.stepP s (.name k) st = (st, false) := by
  simp only [Stm.stepP, h]
theorem step_name_some {s : List UInt8} {k : Nat} {st : Stm.St} {n : Nat} {w : List UInt8} (h : Stm.firstOf (s.drop st.at_) (Stm.namesOf k) 0 = some (n, w)) :
    Stm.stepP s (.name k) st = (Stm.setName k n { st with at_ := st.at_ + w.length }, true) := by
  simp only [Stm.stepP, h]
theorem first_lt (s : List UInt8) (a k n : Nat) (x : List UInt8) (hk : k < 3) (h : Stm.firstOf (s.drop a) (Stm.namesOf k) 0 = some (n, x)) : n < 12 := by
  obtain ⟨i, hi, hx, _⟩ := Stm.firstOf_some _ _ _ _ _ h
  have := (List.getElem?_eq_some_iff.1 hx).1
  rw [names_len k hk] at this
  unfold cntN at this
  split at this <;> omega
theorem step_dig {s : List UInt8} {w : Nat} {b : Bool} {f : Nat} {st : Stm.St} {r : Nat × Int × Bool} (h : Stm.digs s w b st.at_ 0 = r) :
    Stm.stepP s (.dig w b f) st = if r.2.2 then (Stm.setDig f r.2.1 st.at_ { st with at_ := r.1 }, true) else ({ st with at_ := r.1 }, false) := by
  subst h; rfl
theorem run_drop {s : List UInt8} {p : ByteArray} {k : Nat} (h : k < p.size) (st : Stm.St) : Stm.runP s (((L p).drop k).map toPc) st = if (Stm.stepP s (toPc p[k]) st).2 then Stm.runP s (((L p).drop (k + 1)).map toPc) (Stm.stepP s (toPc p[k]) st).1 else Stm.stepP s (toPc p[k]) st := by
  rw [L_drop h, List.map_cons, Stm.runP_cons]
theorem run_drop_of {s : List UInt8} {p : ByteArray} {k : Nat} (h : k < p.size) {st st' : Stm.St} {q : Stm.Pc} {ok : Bool} (hq : toPc p[k] = q) (hs : Stm.stepP s q st = (st', ok)) {R : Stm.St × Bool} (hR : Stm.runP s (((L p).drop k).map toPc) st = R) : (if ok then Stm.runP s (((L p).drop (k + 1)).map toPc) st' else (st', false)) = R := by
  rw [← hR, run_drop h, hq, hs]
  cases ok <;> rfl

theorem zero12 : foundCells Stm.st0 = [.int .i64 0, .int .i64 0, .int .i64 0, .int .i64 0, .int .i64 0, .int .i64 0, .int .i64 0, .int .i64 0, .int .i64 0, .int .i64 0, .int .i64 0, .int .i64 0] := rfl

theorem read_ret {w W : World} {V : Value} {cs : List Value} {b : Bool} {at_ : Int} {a : Act} (hres : Hid (V = .tuple #[.agg cs.toArray, .bool b, .int .i64 at_]))
    (F : CellsAt W w.heap.size cs) (hlen : cs.length = 12) (B : Below w.heap.size w W)
    (h4 : a.tmps[4]? = some (.pointer (some ⟨w.heap.size, 0, none⟩))) (h5 : a.tmps[5]? = some (.bool b)) (h6 : a.tmps[6]? = some (.int .i64 at_)) (hd : a.defers = []) :
    bodyPost Tryz.prog Tryz.f68 (fun e w' => e = Ending.returned V ∧ Below w.heap.size w w') Exit.ret a W := by
  obtain ⟨x0, x1, x2, x3, x4, x5, x6, x7, x8, x9, x10, x11, rfl⟩ : ∃ x0 x1 x2 x3 x4 x5 x6 x7 x8 x9 x10 x11 : Value, cs = [x0, x1, x2, x3, x4, x5, x6, x7, x8, x9, x10, x11] := by
    match cs, hlen with
    | [x0, x1, x2, x3, x4, x5, x6, x7, x8, x9, x10, x11], _ => exact ⟨x0, x1, x2, x3, x4, x5, x6, x7, x8, x9, x10, x11, rfl⟩
  have e0 := F.cell 0 (by simp)
  have e1 := F.cell 1 (by simp)
  have e2 := F.cell 2 (by simp)
  have e3 := F.cell 3 (by simp)
  have e4 := F.cell 4 (by simp)
  have e5 := F.cell 5 (by simp)
  have e6 := F.cell 6 (by simp)
  have e7 := F.cell 7 (by simp)
  have e8 := F.cell 8 (by simp)
  have e9 := F.cell 9 (by simp)
  have e10 := F.cell 10 (by simp)
  have e11 := F.cell 11 (by simp)
  simp only [List.getElem_cons_zero, List.getElem_cons_succ] at e0 e1 e2 e3 e4 e5 e6 e7 e8 e9 e10 e11
  refine bodyPost_ret (v := .tuple #[.agg #[x0, x1, x2, x3, x4, x5, x6, x7, x8, x9, x10, x11], .bool b, .int .i64 at_]) ?_ hd ⟨by rw [hres.out], B⟩
  simp [results, Tryz.results68, go_sem, h4, h5, h6, e0, e1, e2, e3, e4, e5, e6, e7, e8, e9, e10, e11]

set_option maxRecDepth 100000 in
theorem rread_any (s : ByteArray) (form : Nat) (hf : form < 3) (w : World) (hs : s.size ≤ 1099511627) :
    Calls Tryz.prog 68 #[.string s, .int .i64 form] w fun e w' => e = .returned (readV (Stm.runP (L s) (Stm.pcs form) Stm.st0) s.size) ∧ Below w.heap.size w w' := by
  obtain ⟨R, hR⟩ := name_it (Stm.runP (L s) (Stm.pcs form) Stm.st0)
  rw [hR.out]
  obtain ⟨V, hV⟩ := name_it (readV R s.size)
  rw [hV.out]
  obtain ⟨p, hp⟩ := name_it (bs (patL form))
  have hR2 : Hid (Stm.runP (L s) (((L p).drop 0).map toPc) Stm.st0 = R) := by
    rw [← hp.out, List.drop_zero, L_bs, pat_pcs form hf]; exact hR
  have hps : p.size ≤ 18 := by
    rw [← hp.out, size_bs]; unfold patL; split <;> (try split) <;> decide
  clear hR
  have hLs := L_length s
  have HLs := Lib.hid hLs
  clear hLs
  have Z0 := CellsAt.first w (foundCells Stm.st0) 112
  have Z1 := Lib.hid (Z0.next ((Below.refl _ _).alloc (Nat.le_refl _) (.cells (foundCells Stm.st0).toArray 112)))
  have A0 := CellsAt.first (w.alloc (.cells (foundCells Stm.st0).toArray 112)) (foundCells Stm.st0) 112
  have hzz : (w.alloc (.cells (foundCells Stm.st0).toArray 112)).heap.size = w.heap.size + 1 := Array.size_push ..
  rw [hzz] at A0
  have A1 := Lib.hid A0
  have hB0 := (Below.refl w.heap.size w).alloc (Nat.le_refl _) (.cells (foundCells Stm.st0).toArray 112)
  have B1 := Lib.hid (hB0.alloc hB0.size (.cells (foundCells Stm.st0).toArray 112))
  clear Z0 A0 hzz hB0
  go_enter Tryz.func68, Tryz.ntmps68
  go_wp2_with fail
  refine (rpattern_any _ _).mono ?_; rintro e w2 ⟨rfl, rfl⟩
  rw [hp.out]
  go_wp2_with fail
  go_loopw [9, 10] (fun at_ i wq => ∃ (k : Nat) (st : Stm.St), k ≤ p.size ∧ i = .int .i64 k ∧ at_ = .int .i64 st.at_ ∧ st.at_ ≤ s.size ∧ Hid (Stm.runP (L s) (((L p).drop k).map toPc) st = R) ∧
    Hid (CellsAt wq (w.heap.size + 1) (foundCells st)) ∧ Hid (CellsAt wq w.heap.size (foundCells Stm.st0)) ∧ Hid (Below w.heap.size w wq)) (fun _ i _ => p.size - (intOf i).toNat)
  case atStart => exact ⟨0, Stm.st0, Nat.zero_le _, rfl, rfl, Nat.zero_le _, hR2, A1, Z1, B1⟩
  case round =>
    obtain ⟨k, st, hk, rfl, rfl, hat, hrun, A, Z, hbr⟩ := hrel
    clear hR2 A1 Z1 B1
    have hati : (st.at_ : Int) ≤ (s.size : Int) := by omega
    by_cases hlt : k < p.size
    · rcases pick_cases p[k] with hc | hc | hc | hc | hc | hc | hc | hc | hc | hc | hc
      · have hv : (p[k].toNat : Int) = 119 := by rw [hc]; rfl
        obtain ⟨r, hr1⟩ := name_it (Stm.firstOf ((L s).drop st.at_) (Stm.namesOf 0) 0)
        have hq : Hid (toPc p[k] = .name 0) := by rw [hc]; rfl
        clear hc
        go_wp2_with fail
        all_goals (try (exfalso; omega))
        refine (rname0 s st.at_ _ hat hs).mono ?_; rintro e w3 ⟨rfl, hb3⟩
        rw [hr1.out]
        have hbq := hbr.out
        have A3 := Lib.hid (A.out.next hb3)
        have Z3 := Lib.hid (Z.out.next hb3)
        have B3 := Lib.hid (hbq.trans (hb3.mono hbq.size))
        clear hbq hb3 A Z hbr
        have cc := A3.out.cell 0 (by simp [foundCells])
        have gg := A3.out.free 0
        simp only [foundCells, List.getElem_cons_zero] at cc
        cases r with
        | none =>
          have hr : Hid (V = .tuple #[.agg (foundCells Stm.st0).toArray, .bool false, .int .i64 st.at_]) := by
            rw [← hV.out, ← run_drop_of hlt hq.out (step_name_none hr1.out) hrun.out]; rfl
          clear hr1 hq hrun
          unfold nameV
          have z0 := Z3.out.cell 0 (by simp [foundCells])
          have z1 := Z3.out.cell 1 (by simp [foundCells])
          have z2 := Z3.out.cell 2 (by simp [foundCells])
          have z3 := Z3.out.cell 3 (by simp [foundCells])
          have z4 := Z3.out.cell 4 (by simp [foundCells])
          have z5 := Z3.out.cell 5 (by simp [foundCells])
          have z6 := Z3.out.cell 6 (by simp [foundCells])
          have z7 := Z3.out.cell 7 (by simp [foundCells])
          have z8 := Z3.out.cell 8 (by simp [foundCells])
          have z9 := Z3.out.cell 9 (by simp [foundCells])
          have z10 := Z3.out.cell 10 (by simp [foundCells])
          have z11 := Z3.out.cell 11 (by simp [foundCells])
          have y0 := Z3.out.free 0
          have y1 := Z3.out.free 1
          have y2 := Z3.out.free 2
          have y3 := Z3.out.free 3
          have y4 := Z3.out.free 4
          have y5 := Z3.out.free 5
          have y6 := Z3.out.free 6
          have y7 := Z3.out.free 7
          have y8 := Z3.out.free 8
          have y9 := Z3.out.free 9
          have y10 := Z3.out.free 10
          have y11 := Z3.out.free 11
          simp only [foundCells, Stm.st0, List.getElem_cons_zero, List.getElem_cons_succ] at z0 z1 z2 z3 z4 z5 z6 z7 z8 z9 z10 z11
          go_wp2_with fail
          all_goals (try (exfalso; omega))
          have F : CellsAt _ w.heap.size (foundCells Stm.st0) := (((((((((((((Z3.out.other (c := w.heap.size + 1) (by omega) 0 (.int .i64 (-1))).set 0 (by simp [foundCells]) (.int .i64 0)).set 1 (by simp [foundCells]) (.int .i64 0)).set 2 (by simp [foundCells]) (.int .i64 0)).set 3 (by simp [foundCells]) (.int .i64 0)).set 4 (by simp [foundCells]) (.int .i64 0)).set 5 (by simp [foundCells]) (.int .i64 0)).set 6 (by simp [foundCells]) (.int .i64 0)).set 7 (by simp [foundCells]) (.int .i64 0)).set 8 (by simp [foundCells]) (.int .i64 0)).set 9 (by simp [foundCells]) (.int .i64 0)).set 10 (by simp [foundCells]) (.int .i64 0)).set 11 (by simp [foundCells]) (.int .i64 0))
          have B := (((((((((((((B3.out.setCell (p := ⟨w.heap.size + 1, 0, none⟩) (by show w.heap.size ≤ w.heap.size + 1; omega) (.int .i64 (-1))).setCell (p := ⟨w.heap.size, 0, none⟩) (Nat.le_refl _) (.int .i64 0)).setCell (p := ⟨w.heap.size, 1, none⟩) (Nat.le_refl _) (.int .i64 0)).setCell (p := ⟨w.heap.size, 2, none⟩) (Nat.le_refl _) (.int .i64 0)).setCell (p := ⟨w.heap.size, 3, none⟩) (Nat.le_refl _) (.int .i64 0)).setCell (p := ⟨w.heap.size, 4, none⟩) (Nat.le_refl _) (.int .i64 0)).setCell (p := ⟨w.heap.size, 5, none⟩) (Nat.le_refl _) (.int .i64 0)).setCell (p := ⟨w.heap.size, 6, none⟩) (Nat.le_refl _) (.int .i64 0)).setCell (p := ⟨w.heap.size, 7, none⟩) (Nat.le_refl _) (.int .i64 0)).setCell (p := ⟨w.heap.size, 8, none⟩) (Nat.le_refl _) (.int .i64 0)).setCell (p := ⟨w.heap.size, 9, none⟩) (Nat.le_refl _) (.int .i64 0)).setCell (p := ⟨w.heap.size, 10, none⟩) (Nat.le_refl _) (.int .i64 0)).setCell (p := ⟨w.heap.size, 11, none⟩) (Nat.le_refl _) (.int .i64 0))
          refine (fun (key : ∀ W, CellsAt W w.heap.size (foundCells Stm.st0) → Below w.heap.size w W → bodyPost _ _ _ _ _ W) => key _ F B) ?_
          intro W F B
          exact read_ret hr F rfl B rfl rfl rfl rfl
        | some q =>
          obtain ⟨n, x⟩ := q
          have hle2 : (st.at_ : Int) + x.length ≤ s.size := by have := first_le (L s) st.at_ 0 n x hr1.out (by rw [HLs.out]; exact hat); rw [HLs.out] at this; omega
          have hnx : Hid (Stm.runP (L s) (((L p).drop (k + 1)).map toPc) (Stm.setName 0 n { st with at_ := st.at_ + x.length }) = R) := run_drop_of hlt hq.out (step_name_some hr1.out) hrun.out
          have hn12 : (n : Int) ≤ 11 := by have := first_lt (L s) st.at_ 0 n x (by decide) hr1.out; omega
          clear hr1 hq hrun
          unfold nameV
          go_wp2_with fail
          all_goals (try (exfalso; omega))
          go_roundw
          case rel => exact ⟨k + 1, Stm.setName 0 n { st with at_ := st.at_ + x.length }, by omega, by go_num, by go_num, by rw [Stm.at_setName]; show st.at_ + x.length ≤ s.size; omega, hnx, (A3.out.set 0 (by simp [foundCells]) (.int .i64 n)), (Z3.out.other (c := w.heap.size + 1) (by omega) 0 (.int .i64 n)), (B3.out.setCell (p := ⟨w.heap.size + 1, 0, none⟩) (by show w.heap.size ≤ w.heap.size + 1; omega) (.int .i64 n))⟩
          case measure => simp [intOf]; omega
      · have hv : (p[k].toNat : Int) = 108 := by rw [hc]; rfl
        obtain ⟨r, hr1⟩ := name_it (Stm.firstOf ((L s).drop st.at_) (Stm.namesOf 1) 0)
        have hq : Hid (toPc p[k] = .name 1) := by rw [hc]; rfl
        clear hc
        go_wp2_with fail
        all_goals (try (exfalso; omega))
        refine (rname1 s st.at_ _ hat hs).mono ?_; rintro e w3 ⟨rfl, hb3⟩
        rw [hr1.out]
        have hbq := hbr.out
        have A3 := Lib.hid (A.out.next hb3)
        have Z3 := Lib.hid (Z.out.next hb3)
        have B3 := Lib.hid (hbq.trans (hb3.mono hbq.size))
        clear hbq hb3 A Z hbr
        have cc := A3.out.cell 0 (by simp [foundCells])
        have gg := A3.out.free 0
        simp only [foundCells, List.getElem_cons_zero] at cc
        cases r with
        | none =>
          have hr : Hid (V = .tuple #[.agg (foundCells Stm.st0).toArray, .bool false, .int .i64 st.at_]) := by
            rw [← hV.out, ← run_drop_of hlt hq.out (step_name_none hr1.out) hrun.out]; rfl
          clear hr1 hq hrun
          unfold nameV
          have z0 := Z3.out.cell 0 (by simp [foundCells])
          have z1 := Z3.out.cell 1 (by simp [foundCells])
          have z2 := Z3.out.cell 2 (by simp [foundCells])
          have z3 := Z3.out.cell 3 (by simp [foundCells])
          have z4 := Z3.out.cell 4 (by simp [foundCells])
          have z5 := Z3.out.cell 5 (by simp [foundCells])
          have z6 := Z3.out.cell 6 (by simp [foundCells])
          have z7 := Z3.out.cell 7 (by simp [foundCells])
          have z8 := Z3.out.cell 8 (by simp [foundCells])
          have z9 := Z3.out.cell 9 (by simp [foundCells])
          have z10 := Z3.out.cell 10 (by simp [foundCells])
          have z11 := Z3.out.cell 11 (by simp [foundCells])
          have y0 := Z3.out.free 0
          have y1 := Z3.out.free 1
          have y2 := Z3.out.free 2
          have y3 := Z3.out.free 3
          have y4 := Z3.out.free 4
          have y5 := Z3.out.free 5
          have y6 := Z3.out.free 6
          have y7 := Z3.out.free 7
          have y8 := Z3.out.free 8
          have y9 := Z3.out.free 9
          have y10 := Z3.out.free 10
          have y11 := Z3.out.free 11
          simp only [foundCells, Stm.st0, List.getElem_cons_zero, List.getElem_cons_succ] at z0 z1 z2 z3 z4 z5 z6 z7 z8 z9 z10 z11
          go_wp2_with fail
          all_goals (try (exfalso; omega))
          have F : CellsAt _ w.heap.size (foundCells Stm.st0) := (((((((((((((Z3.out.other (c := w.heap.size + 1) (by omega) 0 (.int .i64 (-1))).set 0 (by simp [foundCells]) (.int .i64 0)).set 1 (by simp [foundCells]) (.int .i64 0)).set 2 (by simp [foundCells]) (.int .i64 0)).set 3 (by simp [foundCells]) (.int .i64 0)).set 4 (by simp [foundCells]) (.int .i64 0)).set 5 (by simp [foundCells]) (.int .i64 0)).set 6 (by simp [foundCells]) (.int .i64 0)).set 7 (by simp [foundCells]) (.int .i64 0)).set 8 (by simp [foundCells]) (.int .i64 0)).set 9 (by simp [foundCells]) (.int .i64 0)).set 10 (by simp [foundCells]) (.int .i64 0)).set 11 (by simp [foundCells]) (.int .i64 0))
          have B := (((((((((((((B3.out.setCell (p := ⟨w.heap.size + 1, 0, none⟩) (by show w.heap.size ≤ w.heap.size + 1; omega) (.int .i64 (-1))).setCell (p := ⟨w.heap.size, 0, none⟩) (Nat.le_refl _) (.int .i64 0)).setCell (p := ⟨w.heap.size, 1, none⟩) (Nat.le_refl _) (.int .i64 0)).setCell (p := ⟨w.heap.size, 2, none⟩) (Nat.le_refl _) (.int .i64 0)).setCell (p := ⟨w.heap.size, 3, none⟩) (Nat.le_refl _) (.int .i64 0)).setCell (p := ⟨w.heap.size, 4, none⟩) (Nat.le_refl _) (.int .i64 0)).setCell (p := ⟨w.heap.size, 5, none⟩) (Nat.le_refl _) (.int .i64 0)).setCell (p := ⟨w.heap.size, 6, none⟩) (Nat.le_refl _) (.int .i64 0)).setCell (p := ⟨w.heap.size, 7, none⟩) (Nat.le_refl _) (.int .i64 0)).setCell (p := ⟨w.heap.size, 8, none⟩) (Nat.le_refl _) (.int .i64 0)).setCell (p := ⟨w.heap.size, 9, none⟩) (Nat.le_refl _) (.int .i64 0)).setCell (p := ⟨w.heap.size, 10, none⟩) (Nat.le_refl _) (.int .i64 0)).setCell (p := ⟨w.heap.size, 11, none⟩) (Nat.le_refl _) (.int .i64 0))
          refine (fun (key : ∀ W, CellsAt W w.heap.size (foundCells Stm.st0) → Below w.heap.size w W → bodyPost _ _ _ _ _ W) => key _ F B) ?_
          intro W F B
          exact read_ret hr F rfl B rfl rfl rfl rfl
        | some q =>
          obtain ⟨n, x⟩ := q
          have hle2 : (st.at_ : Int) + x.length ≤ s.size := by have := first_le (L s) st.at_ 1 n x hr1.out (by rw [HLs.out]; exact hat); rw [HLs.out] at this; omega
          have hnx : Hid (Stm.runP (L s) (((L p).drop (k + 1)).map toPc) (Stm.setName 1 n { st with at_ := st.at_ + x.length }) = R) := run_drop_of hlt hq.out (step_name_some hr1.out) hrun.out
          have hn12 : (n : Int) ≤ 11 := by have := first_lt (L s) st.at_ 1 n x (by decide) hr1.out; omega
          clear hr1 hq hrun
          unfold nameV
          go_wp2_with fail
          all_goals (try (exfalso; omega))
          go_roundw
          case rel => exact ⟨k + 1, Stm.setName 1 n { st with at_ := st.at_ + x.length }, by omega, by go_num, by go_num, by rw [Stm.at_setName]; show st.at_ + x.length ≤ s.size; omega, hnx, (A3.out.set 0 (by simp [foundCells]) (.int .i64 n)), (Z3.out.other (c := w.heap.size + 1) (by omega) 0 (.int .i64 n)), (B3.out.setCell (p := ⟨w.heap.size + 1, 0, none⟩) (by show w.heap.size ≤ w.heap.size + 1; omega) (.int .i64 n))⟩
          case measure => simp [intOf]; omega
      · have hv : (p[k].toNat : Int) = 109 := by rw [hc]; rfl
        obtain ⟨r, hr1⟩ := name_it (Stm.firstOf ((L s).drop st.at_) (Stm.namesOf 2) 0)
        have hq : Hid (toPc p[k] = .name 2) := by rw [hc]; rfl
        clear hc
        go_wp2_with fail
        all_goals (try (exfalso; omega))
        refine (rname2 s st.at_ _ hat hs).mono ?_; rintro e w3 ⟨rfl, hb3⟩
        rw [hr1.out]
        have hbq := hbr.out
        have A3 := Lib.hid (A.out.next hb3)
        have Z3 := Lib.hid (Z.out.next hb3)
        have B3 := Lib.hid (hbq.trans (hb3.mono hbq.size))
        clear hbq hb3 A Z hbr
        have cc := A3.out.cell 1 (by simp [foundCells])
        have gg := A3.out.free 1
        simp only [foundCells, List.getElem_cons_zero, List.getElem_cons_succ] at cc
        cases r with
        | none =>
          have hr : Hid (V = .tuple #[.agg (foundCells Stm.st0).toArray, .bool false, .int .i64 st.at_]) := by
            rw [← hV.out, ← run_drop_of hlt hq.out (step_name_none hr1.out) hrun.out]; rfl
          clear hr1 hq hrun
          unfold nameV
          have z0 := Z3.out.cell 0 (by simp [foundCells])
          have z1 := Z3.out.cell 1 (by simp [foundCells])
          have z2 := Z3.out.cell 2 (by simp [foundCells])
          have z3 := Z3.out.cell 3 (by simp [foundCells])
          have z4 := Z3.out.cell 4 (by simp [foundCells])
          have z5 := Z3.out.cell 5 (by simp [foundCells])
          have z6 := Z3.out.cell 6 (by simp [foundCells])
          have z7 := Z3.out.cell 7 (by simp [foundCells])
          have z8 := Z3.out.cell 8 (by simp [foundCells])
          have z9 := Z3.out.cell 9 (by simp [foundCells])
          have z10 := Z3.out.cell 10 (by simp [foundCells])
          have z11 := Z3.out.cell 11 (by simp [foundCells])
          have y0 := Z3.out.free 0
          have y1 := Z3.out.free 1
          have y2 := Z3.out.free 2
          have y3 := Z3.out.free 3
          have y4 := Z3.out.free 4
          have y5 := Z3.out.free 5
          have y6 := Z3.out.free 6
          have y7 := Z3.out.free 7
          have y8 := Z3.out.free 8
          have y9 := Z3.out.free 9
          have y10 := Z3.out.free 10
          have y11 := Z3.out.free 11
          simp only [foundCells, Stm.st0, List.getElem_cons_zero, List.getElem_cons_succ] at z0 z1 z2 z3 z4 z5 z6 z7 z8 z9 z10 z11
          go_wp2_with fail
          all_goals (try (exfalso; omega))
          have F : CellsAt _ w.heap.size (foundCells Stm.st0) := (((((((((((((Z3.out.other (c := w.heap.size + 1) (by omega) 1 (.int .i64 0)).set 0 (by simp [foundCells]) (.int .i64 0)).set 1 (by simp [foundCells]) (.int .i64 0)).set 2 (by simp [foundCells]) (.int .i64 0)).set 3 (by simp [foundCells]) (.int .i64 0)).set 4 (by simp [foundCells]) (.int .i64 0)).set 5 (by simp [foundCells]) (.int .i64 0)).set 6 (by simp [foundCells]) (.int .i64 0)).set 7 (by simp [foundCells]) (.int .i64 0)).set 8 (by simp [foundCells]) (.int .i64 0)).set 9 (by simp [foundCells]) (.int .i64 0)).set 10 (by simp [foundCells]) (.int .i64 0)).set 11 (by simp [foundCells]) (.int .i64 0))
          have B := (((((((((((((B3.out.setCell (p := ⟨w.heap.size + 1, 1, none⟩) (by show w.heap.size ≤ w.heap.size + 1; omega) (.int .i64 0)).setCell (p := ⟨w.heap.size, 0, none⟩) (Nat.le_refl _) (.int .i64 0)).setCell (p := ⟨w.heap.size, 1, none⟩) (Nat.le_refl _) (.int .i64 0)).setCell (p := ⟨w.heap.size, 2, none⟩) (Nat.le_refl _) (.int .i64 0)).setCell (p := ⟨w.heap.size, 3, none⟩) (Nat.le_refl _) (.int .i64 0)).setCell (p := ⟨w.heap.size, 4, none⟩) (Nat.le_refl _) (.int .i64 0)).setCell (p := ⟨w.heap.size, 5, none⟩) (Nat.le_refl _) (.int .i64 0)).setCell (p := ⟨w.heap.size, 6, none⟩) (Nat.le_refl _) (.int .i64 0)).setCell (p := ⟨w.heap.size, 7, none⟩) (Nat.le_refl _) (.int .i64 0)).setCell (p := ⟨w.heap.size, 8, none⟩) (Nat.le_refl _) (.int .i64 0)).setCell (p := ⟨w.heap.size, 9, none⟩) (Nat.le_refl _) (.int .i64 0)).setCell (p := ⟨w.heap.size, 10, none⟩) (Nat.le_refl _) (.int .i64 0)).setCell (p := ⟨w.heap.size, 11, none⟩) (Nat.le_refl _) (.int .i64 0))
          refine (fun (key : ∀ W, CellsAt W w.heap.size (foundCells Stm.st0) → Below w.heap.size w W → bodyPost _ _ _ _ _ W) => key _ F B) ?_
          intro W F B
          exact read_ret hr F rfl B rfl rfl rfl rfl
        | some q =>
          obtain ⟨n, x⟩ := q
          have hle2 : (st.at_ : Int) + x.length ≤ s.size := by have := first_le (L s) st.at_ 2 n x hr1.out (by rw [HLs.out]; exact hat); rw [HLs.out] at this; omega
          have hnx : Hid (Stm.runP (L s) (((L p).drop (k + 1)).map toPc) (Stm.setName 2 n { st with at_ := st.at_ + x.length }) = R) := run_drop_of hlt hq.out (step_name_some hr1.out) hrun.out
          have hn12 : (n : Int) ≤ 11 := by have := first_lt (L s) st.at_ 2 n x (by decide) hr1.out; omega
          clear hr1 hq hrun
          unfold nameV
          go_wp2_with fail
          all_goals (try (exfalso; omega))
          go_roundw
          case rel => exact ⟨k + 1, Stm.setName 2 n { st with at_ := st.at_ + x.length }, by omega, by go_num, by go_num, by rw [Stm.at_setName]; show st.at_ + x.length ≤ s.size; omega, hnx, (A3.out.set 1 (by simp [foundCells]) (.int .i64 ((n : Int) + 1))), (Z3.out.other (c := w.heap.size + 1) (by omega) 1 (.int .i64 ((n : Int) + 1))), (B3.out.setCell (p := ⟨w.heap.size + 1, 1, none⟩) (by show w.heap.size ≤ w.heap.size + 1; omega) (.int .i64 ((n : Int) + 1)))⟩
          case measure => simp [intOf]; omega
      · have hv : (p[k].toNat : Int) = 100 := by rw [hc]; rfl
        obtain ⟨r, hr1⟩ := name_it (Stm.digs (L s) 2 false st.at_ 0)
        have hst := Lib.hid (step_dig (s := L s) (w := 2) (b := false) (f := 0) (st := st) hr1.out)
        have hle := digs_le (L s) 2 false st.at_ 0 (by rw [HLs.out]; exact hat) (by omega)
        rw [hr1.out, HLs.out] at hle
        have hq : Hid (toPc p[k] = .dig 2 false 0) := by rw [hc]; rfl
        clear hc
        go_wp2_with fail
        all_goals (try (exfalso; omega))
        refine (rnumber_any s st.at_ 2 false _ hat hs (by decide)).mono ?_; rintro e w3 ⟨rfl, rfl⟩
        rw [hr1.out]
        clear hr1
        have cc := A.out.cell 2 (by simp [foundCells])
        have gg := A.out.free 2
        have cd := A.out.cell 7 (by simp [foundCells])
        have gd := A.out.free 7
        simp only [foundCells, List.getElem_cons_zero, List.getElem_cons_succ] at cc cd
        obtain ⟨b1, v, ok⟩ := r
        dsimp only at hle hst
        obtain ⟨hle1, hle2⟩ := hle
        have hle3 : (b1 : Int) ≤ s.size := by omega
        cases ok
        · have hr : Hid (V = .tuple #[.agg (foundCells Stm.st0).toArray, .bool false, .int .i64 b1]) := by
            rw [← hV.out, ← run_drop_of hlt hq.out hst.out hrun.out]; rfl
          clear hst hq hrun
          rw [show numV (b1, v, false) = .tuple #[.int .i64 (-1), .int .i64 b1] from rfl]
          have z0 := Z.out.cell 0 (by simp [foundCells])
          have z1 := Z.out.cell 1 (by simp [foundCells])
          have z2 := Z.out.cell 2 (by simp [foundCells])
          have z3 := Z.out.cell 3 (by simp [foundCells])
          have z4 := Z.out.cell 4 (by simp [foundCells])
          have z5 := Z.out.cell 5 (by simp [foundCells])
          have z6 := Z.out.cell 6 (by simp [foundCells])
          have z7 := Z.out.cell 7 (by simp [foundCells])
          have z8 := Z.out.cell 8 (by simp [foundCells])
          have z9 := Z.out.cell 9 (by simp [foundCells])
          have z10 := Z.out.cell 10 (by simp [foundCells])
          have z11 := Z.out.cell 11 (by simp [foundCells])
          have y0 := Z.out.free 0
          have y1 := Z.out.free 1
          have y2 := Z.out.free 2
          have y3 := Z.out.free 3
          have y4 := Z.out.free 4
          have y5 := Z.out.free 5
          have y6 := Z.out.free 6
          have y7 := Z.out.free 7
          have y8 := Z.out.free 8
          have y9 := Z.out.free 9
          have y10 := Z.out.free 10
          have y11 := Z.out.free 11
          simp only [foundCells, Stm.st0, List.getElem_cons_zero, List.getElem_cons_succ] at z0 z1 z2 z3 z4 z5 z6 z7 z8 z9 z10 z11
          go_wp2_with fail
          all_goals (try (exfalso; omega))
          have F : CellsAt _ w.heap.size (foundCells Stm.st0) := ((((((((((((((Z.out.other (c := w.heap.size + 1) (by omega) 2 (.int .i64 (-1))).other (c := w.heap.size + 1) (by omega) 7 (.int .i64 st.at_)).set 0 (by simp [foundCells]) (.int .i64 0)).set 1 (by simp [foundCells]) (.int .i64 0)).set 2 (by simp [foundCells]) (.int .i64 0)).set 3 (by simp [foundCells]) (.int .i64 0)).set 4 (by simp [foundCells]) (.int .i64 0)).set 5 (by simp [foundCells]) (.int .i64 0)).set 6 (by simp [foundCells]) (.int .i64 0)).set 7 (by simp [foundCells]) (.int .i64 0)).set 8 (by simp [foundCells]) (.int .i64 0)).set 9 (by simp [foundCells]) (.int .i64 0)).set 10 (by simp [foundCells]) (.int .i64 0)).set 11 (by simp [foundCells]) (.int .i64 0))
          have B := ((((((((((((((hbr.out.setCell (p := ⟨w.heap.size + 1, 2, none⟩) (by show w.heap.size ≤ w.heap.size + 1; omega) (.int .i64 (-1))).setCell (p := ⟨w.heap.size + 1, 7, none⟩) (by show w.heap.size ≤ w.heap.size + 1; omega) (.int .i64 st.at_)).setCell (p := ⟨w.heap.size, 0, none⟩) (Nat.le_refl _) (.int .i64 0)).setCell (p := ⟨w.heap.size, 1, none⟩) (Nat.le_refl _) (.int .i64 0)).setCell (p := ⟨w.heap.size, 2, none⟩) (Nat.le_refl _) (.int .i64 0)).setCell (p := ⟨w.heap.size, 3, none⟩) (Nat.le_refl _) (.int .i64 0)).setCell (p := ⟨w.heap.size, 4, none⟩) (Nat.le_refl _) (.int .i64 0)).setCell (p := ⟨w.heap.size, 5, none⟩) (Nat.le_refl _) (.int .i64 0)).setCell (p := ⟨w.heap.size, 6, none⟩) (Nat.le_refl _) (.int .i64 0)).setCell (p := ⟨w.heap.size, 7, none⟩) (Nat.le_refl _) (.int .i64 0)).setCell (p := ⟨w.heap.size, 8, none⟩) (Nat.le_refl _) (.int .i64 0)).setCell (p := ⟨w.heap.size, 9, none⟩) (Nat.le_refl _) (.int .i64 0)).setCell (p := ⟨w.heap.size, 10, none⟩) (Nat.le_refl _) (.int .i64 0)).setCell (p := ⟨w.heap.size, 11, none⟩) (Nat.le_refl _) (.int .i64 0))
          refine (fun (key : ∀ W, CellsAt W w.heap.size (foundCells Stm.st0) → Below w.heap.size w W → bodyPost _ _ _ _ _ W) => key _ F B) ?_
          intro W F B
          exact read_ret hr F rfl B rfl rfl rfl rfl
        · have hnx : Hid (Stm.runP (L s) (((L p).drop (k + 1)).map toPc) (Stm.setDig 0 v st.at_ { st with at_ := b1 }) = R) := run_drop_of hlt hq.out hst.out hrun.out
          clear hst hq hrun
          rw [show numV (b1, v, true) = .tuple #[.int .i64 v, .int .i64 b1] from rfl]
          go_wp2_with fail
          all_goals (try (exfalso; omega))
          go_roundw
          case rel => exact ⟨k + 1, Stm.setDig 0 v st.at_ { st with at_ := b1 }, by omega, by go_num, by go_num, by rw [Stm.at_setDig]; exact hle1, hnx, ((A.out.set 2 (by simp [foundCells]) (.int .i64 v)).set 7 (by simp [foundCells]) (.int .i64 st.at_)), ((Z.out.other (c := w.heap.size + 1) (by omega) 2 (.int .i64 v)).other (c := w.heap.size + 1) (by omega) 7 (.int .i64 st.at_)), ((hbr.out.setCell (p := ⟨w.heap.size + 1, 2, none⟩) (by show w.heap.size ≤ w.heap.size + 1; omega) (.int .i64 v)).setCell (p := ⟨w.heap.size + 1, 7, none⟩) (by show w.heap.size ≤ w.heap.size + 1; omega) (.int .i64 st.at_))⟩
          case measure => simp [intOf]; omega
      · have hv : (p[k].toNat : Int) = 101 := by rw [hc]; rfl
        obtain ⟨r, hr1⟩ := name_it (Stm.digs (L s) 2 true st.at_ 0)
        have hst := Lib.hid (step_dig (s := L s) (w := 2) (b := true) (f := 0) (st := st) hr1.out)
        have hle := digs_le (L s) 2 true st.at_ 0 (by rw [HLs.out]; exact hat) (by omega)
        rw [hr1.out, HLs.out] at hle
        have hq : Hid (toPc p[k] = .dig 2 true 0) := by rw [hc]; rfl
        clear hc
        go_wp2_with fail
        all_goals (try (exfalso; omega))
        refine (rnumber_any s st.at_ 2 true _ hat hs (by decide)).mono ?_; rintro e w3 ⟨rfl, rfl⟩
        rw [hr1.out]
        clear hr1
        have cc := A.out.cell 2 (by simp [foundCells])
        have gg := A.out.free 2
        have cd := A.out.cell 7 (by simp [foundCells])
        have gd := A.out.free 7
        simp only [foundCells, List.getElem_cons_zero, List.getElem_cons_succ] at cc cd
        obtain ⟨b1, v, ok⟩ := r
        dsimp only at hle hst
        obtain ⟨hle1, hle2⟩ := hle
        have hle3 : (b1 : Int) ≤ s.size := by omega
        cases ok
        · have hr : Hid (V = .tuple #[.agg (foundCells Stm.st0).toArray, .bool false, .int .i64 b1]) := by
            rw [← hV.out, ← run_drop_of hlt hq.out hst.out hrun.out]; rfl
          clear hst hq hrun
          rw [show numV (b1, v, false) = .tuple #[.int .i64 (-1), .int .i64 b1] from rfl]
          have z0 := Z.out.cell 0 (by simp [foundCells])
          have z1 := Z.out.cell 1 (by simp [foundCells])
          have z2 := Z.out.cell 2 (by simp [foundCells])
          have z3 := Z.out.cell 3 (by simp [foundCells])
          have z4 := Z.out.cell 4 (by simp [foundCells])
          have z5 := Z.out.cell 5 (by simp [foundCells])
          have z6 := Z.out.cell 6 (by simp [foundCells])
          have z7 := Z.out.cell 7 (by simp [foundCells])
          have z8 := Z.out.cell 8 (by simp [foundCells])
          have z9 := Z.out.cell 9 (by simp [foundCells])
          have z10 := Z.out.cell 10 (by simp [foundCells])
          have z11 := Z.out.cell 11 (by simp [foundCells])
          have y0 := Z.out.free 0
          have y1 := Z.out.free 1
          have y2 := Z.out.free 2
          have y3 := Z.out.free 3
          have y4 := Z.out.free 4
          have y5 := Z.out.free 5
          have y6 := Z.out.free 6
          have y7 := Z.out.free 7
          have y8 := Z.out.free 8
          have y9 := Z.out.free 9
          have y10 := Z.out.free 10
          have y11 := Z.out.free 11
          simp only [foundCells, Stm.st0, List.getElem_cons_zero, List.getElem_cons_succ] at z0 z1 z2 z3 z4 z5 z6 z7 z8 z9 z10 z11
          go_wp2_with fail
          all_goals (try (exfalso; omega))
          have F : CellsAt _ w.heap.size (foundCells Stm.st0) := ((((((((((((((Z.out.other (c := w.heap.size + 1) (by omega) 2 (.int .i64 (-1))).other (c := w.heap.size + 1) (by omega) 7 (.int .i64 st.at_)).set 0 (by simp [foundCells]) (.int .i64 0)).set 1 (by simp [foundCells]) (.int .i64 0)).set 2 (by simp [foundCells]) (.int .i64 0)).set 3 (by simp [foundCells]) (.int .i64 0)).set 4 (by simp [foundCells]) (.int .i64 0)).set 5 (by simp [foundCells]) (.int .i64 0)).set 6 (by simp [foundCells]) (.int .i64 0)).set 7 (by simp [foundCells]) (.int .i64 0)).set 8 (by simp [foundCells]) (.int .i64 0)).set 9 (by simp [foundCells]) (.int .i64 0)).set 10 (by simp [foundCells]) (.int .i64 0)).set 11 (by simp [foundCells]) (.int .i64 0))
          have B := ((((((((((((((hbr.out.setCell (p := ⟨w.heap.size + 1, 2, none⟩) (by show w.heap.size ≤ w.heap.size + 1; omega) (.int .i64 (-1))).setCell (p := ⟨w.heap.size + 1, 7, none⟩) (by show w.heap.size ≤ w.heap.size + 1; omega) (.int .i64 st.at_)).setCell (p := ⟨w.heap.size, 0, none⟩) (Nat.le_refl _) (.int .i64 0)).setCell (p := ⟨w.heap.size, 1, none⟩) (Nat.le_refl _) (.int .i64 0)).setCell (p := ⟨w.heap.size, 2, none⟩) (Nat.le_refl _) (.int .i64 0)).setCell (p := ⟨w.heap.size, 3, none⟩) (Nat.le_refl _) (.int .i64 0)).setCell (p := ⟨w.heap.size, 4, none⟩) (Nat.le_refl _) (.int .i64 0)).setCell (p := ⟨w.heap.size, 5, none⟩) (Nat.le_refl _) (.int .i64 0)).setCell (p := ⟨w.heap.size, 6, none⟩) (Nat.le_refl _) (.int .i64 0)).setCell (p := ⟨w.heap.size, 7, none⟩) (Nat.le_refl _) (.int .i64 0)).setCell (p := ⟨w.heap.size, 8, none⟩) (Nat.le_refl _) (.int .i64 0)).setCell (p := ⟨w.heap.size, 9, none⟩) (Nat.le_refl _) (.int .i64 0)).setCell (p := ⟨w.heap.size, 10, none⟩) (Nat.le_refl _) (.int .i64 0)).setCell (p := ⟨w.heap.size, 11, none⟩) (Nat.le_refl _) (.int .i64 0))
          refine (fun (key : ∀ W, CellsAt W w.heap.size (foundCells Stm.st0) → Below w.heap.size w W → bodyPost _ _ _ _ _ W) => key _ F B) ?_
          intro W F B
          exact read_ret hr F rfl B rfl rfl rfl rfl
        · have hnx : Hid (Stm.runP (L s) (((L p).drop (k + 1)).map toPc) (Stm.setDig 0 v st.at_ { st with at_ := b1 }) = R) := run_drop_of hlt hq.out hst.out hrun.out
          clear hst hq hrun
          rw [show numV (b1, v, true) = .tuple #[.int .i64 v, .int .i64 b1] from rfl]
          go_wp2_with fail
          all_goals (try (exfalso; omega))
          go_roundw
          case rel => exact ⟨k + 1, Stm.setDig 0 v st.at_ { st with at_ := b1 }, by omega, by go_num, by go_num, by rw [Stm.at_setDig]; exact hle1, hnx, ((A.out.set 2 (by simp [foundCells]) (.int .i64 v)).set 7 (by simp [foundCells]) (.int .i64 st.at_)), ((Z.out.other (c := w.heap.size + 1) (by omega) 2 (.int .i64 v)).other (c := w.heap.size + 1) (by omega) 7 (.int .i64 st.at_)), ((hbr.out.setCell (p := ⟨w.heap.size + 1, 2, none⟩) (by show w.heap.size ≤ w.heap.size + 1; omega) (.int .i64 v)).setCell (p := ⟨w.heap.size + 1, 7, none⟩) (by show w.heap.size ≤ w.heap.size + 1; omega) (.int .i64 st.at_))⟩
          case measure => simp [intOf]; omega
      · have hv : (p[k].toNat : Int) = 121 := by rw [hc]; rfl
        obtain ⟨r, hr1⟩ := name_it (Stm.digs (L s) 4 false st.at_ 0)
        have hst := Lib.hid (step_dig (s := L s) (w := 4) (b := false) (f := 1) (st := st) hr1.out)
        have hle := digs_le (L s) 4 false st.at_ 0 (by rw [HLs.out]; exact hat) (by omega)
        rw [hr1.out, HLs.out] at hle
        have hq : Hid (toPc p[k] = .dig 4 false 1) := by rw [hc]; rfl
        clear hc
        go_wp2_with fail
        all_goals (try (exfalso; omega))
        refine (rnumber_any s st.at_ 4 false _ hat hs (by decide)).mono ?_; rintro e w3 ⟨rfl, rfl⟩
        rw [hr1.out]
        clear hr1
        have cc := A.out.cell 3 (by simp [foundCells])
        have gg := A.out.free 3
        have cd := A.out.cell 8 (by simp [foundCells])
        have gd := A.out.free 8
        simp only [foundCells, List.getElem_cons_zero, List.getElem_cons_succ] at cc cd
        obtain ⟨b1, v, ok⟩ := r
        dsimp only at hle hst
        obtain ⟨hle1, hle2⟩ := hle
        have hle3 : (b1 : Int) ≤ s.size := by omega
        cases ok
        · have hr : Hid (V = .tuple #[.agg (foundCells Stm.st0).toArray, .bool false, .int .i64 b1]) := by
            rw [← hV.out, ← run_drop_of hlt hq.out hst.out hrun.out]; rfl
          clear hst hq hrun
          rw [show numV (b1, v, false) = .tuple #[.int .i64 (-1), .int .i64 b1] from rfl]
          have z0 := Z.out.cell 0 (by simp [foundCells])
          have z1 := Z.out.cell 1 (by simp [foundCells])
          have z2 := Z.out.cell 2 (by simp [foundCells])
          have z3 := Z.out.cell 3 (by simp [foundCells])
          have z4 := Z.out.cell 4 (by simp [foundCells])
          have z5 := Z.out.cell 5 (by simp [foundCells])
          have z6 := Z.out.cell 6 (by simp [foundCells])
          have z7 := Z.out.cell 7 (by simp [foundCells])
          have z8 := Z.out.cell 8 (by simp [foundCells])
          have z9 := Z.out.cell 9 (by simp [foundCells])
          have z10 := Z.out.cell 10 (by simp [foundCells])
          have z11 := Z.out.cell 11 (by simp [foundCells])
          have y0 := Z.out.free 0
          have y1 := Z.out.free 1
          have y2 := Z.out.free 2
          have y3 := Z.out.free 3
          have y4 := Z.out.free 4
          have y5 := Z.out.free 5
          have y6 := Z.out.free 6
          have y7 := Z.out.free 7
          have y8 := Z.out.free 8
          have y9 := Z.out.free 9
          have y10 := Z.out.free 10
          have y11 := Z.out.free 11
          simp only [foundCells, Stm.st0, List.getElem_cons_zero, List.getElem_cons_succ] at z0 z1 z2 z3 z4 z5 z6 z7 z8 z9 z10 z11
          go_wp2_with fail
          all_goals (try (exfalso; omega))
          have F : CellsAt _ w.heap.size (foundCells Stm.st0) := ((((((((((((((Z.out.other (c := w.heap.size + 1) (by omega) 3 (.int .i64 (-1))).other (c := w.heap.size + 1) (by omega) 8 (.int .i64 st.at_)).set 0 (by simp [foundCells]) (.int .i64 0)).set 1 (by simp [foundCells]) (.int .i64 0)).set 2 (by simp [foundCells]) (.int .i64 0)).set 3 (by simp [foundCells]) (.int .i64 0)).set 4 (by simp [foundCells]) (.int .i64 0)).set 5 (by simp [foundCells]) (.int .i64 0)).set 6 (by simp [foundCells]) (.int .i64 0)).set 7 (by simp [foundCells]) (.int .i64 0)).set 8 (by simp [foundCells]) (.int .i64 0)).set 9 (by simp [foundCells]) (.int .i64 0)).set 10 (by simp [foundCells]) (.int .i64 0)).set 11 (by simp [foundCells]) (.int .i64 0))
          have B := ((((((((((((((hbr.out.setCell (p := ⟨w.heap.size + 1, 3, none⟩) (by show w.heap.size ≤ w.heap.size + 1; omega) (.int .i64 (-1))).setCell (p := ⟨w.heap.size + 1, 8, none⟩) (by show w.heap.size ≤ w.heap.size + 1; omega) (.int .i64 st.at_)).setCell (p := ⟨w.heap.size, 0, none⟩) (Nat.le_refl _) (.int .i64 0)).setCell (p := ⟨w.heap.size, 1, none⟩) (Nat.le_refl _) (.int .i64 0)).setCell (p := ⟨w.heap.size, 2, none⟩) (Nat.le_refl _) (.int .i64 0)).setCell (p := ⟨w.heap.size, 3, none⟩) (Nat.le_refl _) (.int .i64 0)).setCell (p := ⟨w.heap.size, 4, none⟩) (Nat.le_refl _) (.int .i64 0)).setCell (p := ⟨w.heap.size, 5, none⟩) (Nat.le_refl _) (.int .i64 0)).setCell (p := ⟨w.heap.size, 6, none⟩) (Nat.le_refl _) (.int .i64 0)).setCell (p := ⟨w.heap.size, 7, none⟩) (Nat.le_refl _) (.int .i64 0)).setCell (p := ⟨w.heap.size, 8, none⟩) (Nat.le_refl _) (.int .i64 0)).setCell (p := ⟨w.heap.size, 9, none⟩) (Nat.le_refl _) (.int .i64 0)).setCell (p := ⟨w.heap.size, 10, none⟩) (Nat.le_refl _) (.int .i64 0)).setCell (p := ⟨w.heap.size, 11, none⟩) (Nat.le_refl _) (.int .i64 0))
          refine (fun (key : ∀ W, CellsAt W w.heap.size (foundCells Stm.st0) → Below w.heap.size w W → bodyPost _ _ _ _ _ W) => key _ F B) ?_
          intro W F B
          exact read_ret hr F rfl B rfl rfl rfl rfl
        · have hnx : Hid (Stm.runP (L s) (((L p).drop (k + 1)).map toPc) (Stm.setDig 1 v st.at_ { st with at_ := b1 }) = R) := run_drop_of hlt hq.out hst.out hrun.out
          clear hst hq hrun
          rw [show numV (b1, v, true) = .tuple #[.int .i64 v, .int .i64 b1] from rfl]
          go_wp2_with fail
          all_goals (try (exfalso; omega))
          go_roundw
          case rel => exact ⟨k + 1, Stm.setDig 1 v st.at_ { st with at_ := b1 }, by omega, by go_num, by go_num, by rw [Stm.at_setDig]; exact hle1, hnx, ((A.out.set 3 (by simp [foundCells]) (.int .i64 v)).set 8 (by simp [foundCells]) (.int .i64 st.at_)), ((Z.out.other (c := w.heap.size + 1) (by omega) 3 (.int .i64 v)).other (c := w.heap.size + 1) (by omega) 8 (.int .i64 st.at_)), ((hbr.out.setCell (p := ⟨w.heap.size + 1, 3, none⟩) (by show w.heap.size ≤ w.heap.size + 1; omega) (.int .i64 v)).setCell (p := ⟨w.heap.size + 1, 8, none⟩) (by show w.heap.size ≤ w.heap.size + 1; omega) (.int .i64 st.at_))⟩
          case measure => simp [intOf]; omega
      · have hv : (p[k].toNat : Int) = 99 := by rw [hc]; rfl
        obtain ⟨r, hr1⟩ := name_it (Stm.digs (L s) 2 false st.at_ 0)
        have hst := Lib.hid (step_dig (s := L s) (w := 2) (b := false) (f := 1) (st := st) hr1.out)
        have hle := digs_le (L s) 2 false st.at_ 0 (by rw [HLs.out]; exact hat) (by omega)
        rw [hr1.out, HLs.out] at hle
        have hq : Hid (toPc p[k] = .dig 2 false 1) := by rw [hc]; rfl
        clear hc
        go_wp2_with fail
        all_goals (try (exfalso; omega))
        refine (rnumber_any s st.at_ 2 false _ hat hs (by decide)).mono ?_; rintro e w3 ⟨rfl, rfl⟩
        rw [hr1.out]
        clear hr1
        have cc := A.out.cell 3 (by simp [foundCells])
        have gg := A.out.free 3
        have cd := A.out.cell 8 (by simp [foundCells])
        have gd := A.out.free 8
        simp only [foundCells, List.getElem_cons_zero, List.getElem_cons_succ] at cc cd
        obtain ⟨b1, v, ok⟩ := r
        dsimp only at hle hst
        obtain ⟨hle1, hle2⟩ := hle
        have hle3 : (b1 : Int) ≤ s.size := by omega
        cases ok
        · have hr : Hid (V = .tuple #[.agg (foundCells Stm.st0).toArray, .bool false, .int .i64 b1]) := by
            rw [← hV.out, ← run_drop_of hlt hq.out hst.out hrun.out]; rfl
          clear hst hq hrun
          rw [show numV (b1, v, false) = .tuple #[.int .i64 (-1), .int .i64 b1] from rfl]
          have z0 := Z.out.cell 0 (by simp [foundCells])
          have z1 := Z.out.cell 1 (by simp [foundCells])
          have z2 := Z.out.cell 2 (by simp [foundCells])
          have z3 := Z.out.cell 3 (by simp [foundCells])
          have z4 := Z.out.cell 4 (by simp [foundCells])
          have z5 := Z.out.cell 5 (by simp [foundCells])
          have z6 := Z.out.cell 6 (by simp [foundCells])
          have z7 := Z.out.cell 7 (by simp [foundCells])
          have z8 := Z.out.cell 8 (by simp [foundCells])
          have z9 := Z.out.cell 9 (by simp [foundCells])
          have z10 := Z.out.cell 10 (by simp [foundCells])
          have z11 := Z.out.cell 11 (by simp [foundCells])
          have y0 := Z.out.free 0
          have y1 := Z.out.free 1
          have y2 := Z.out.free 2
          have y3 := Z.out.free 3
          have y4 := Z.out.free 4
          have y5 := Z.out.free 5
          have y6 := Z.out.free 6
          have y7 := Z.out.free 7
          have y8 := Z.out.free 8
          have y9 := Z.out.free 9
          have y10 := Z.out.free 10
          have y11 := Z.out.free 11
          simp only [foundCells, Stm.st0, List.getElem_cons_zero, List.getElem_cons_succ] at z0 z1 z2 z3 z4 z5 z6 z7 z8 z9 z10 z11
          go_wp2_with fail
          all_goals (try (exfalso; omega))
          have F : CellsAt _ w.heap.size (foundCells Stm.st0) := ((((((((((((((Z.out.other (c := w.heap.size + 1) (by omega) 3 (.int .i64 (-1))).other (c := w.heap.size + 1) (by omega) 8 (.int .i64 st.at_)).set 0 (by simp [foundCells]) (.int .i64 0)).set 1 (by simp [foundCells]) (.int .i64 0)).set 2 (by simp [foundCells]) (.int .i64 0)).set 3 (by simp [foundCells]) (.int .i64 0)).set 4 (by simp [foundCells]) (.int .i64 0)).set 5 (by simp [foundCells]) (.int .i64 0)).set 6 (by simp [foundCells]) (.int .i64 0)).set 7 (by simp [foundCells]) (.int .i64 0)).set 8 (by simp [foundCells]) (.int .i64 0)).set 9 (by simp [foundCells]) (.int .i64 0)).set 10 (by simp [foundCells]) (.int .i64 0)).set 11 (by simp [foundCells]) (.int .i64 0))
          have B := ((((((((((((((hbr.out.setCell (p := ⟨w.heap.size + 1, 3, none⟩) (by show w.heap.size ≤ w.heap.size + 1; omega) (.int .i64 (-1))).setCell (p := ⟨w.heap.size + 1, 8, none⟩) (by show w.heap.size ≤ w.heap.size + 1; omega) (.int .i64 st.at_)).setCell (p := ⟨w.heap.size, 0, none⟩) (Nat.le_refl _) (.int .i64 0)).setCell (p := ⟨w.heap.size, 1, none⟩) (Nat.le_refl _) (.int .i64 0)).setCell (p := ⟨w.heap.size, 2, none⟩) (Nat.le_refl _) (.int .i64 0)).setCell (p := ⟨w.heap.size, 3, none⟩) (Nat.le_refl _) (.int .i64 0)).setCell (p := ⟨w.heap.size, 4, none⟩) (Nat.le_refl _) (.int .i64 0)).setCell (p := ⟨w.heap.size, 5, none⟩) (Nat.le_refl _) (.int .i64 0)).setCell (p := ⟨w.heap.size, 6, none⟩) (Nat.le_refl _) (.int .i64 0)).setCell (p := ⟨w.heap.size, 7, none⟩) (Nat.le_refl _) (.int .i64 0)).setCell (p := ⟨w.heap.size, 8, none⟩) (Nat.le_refl _) (.int .i64 0)).setCell (p := ⟨w.heap.size, 9, none⟩) (Nat.le_refl _) (.int .i64 0)).setCell (p := ⟨w.heap.size, 10, none⟩) (Nat.le_refl _) (.int .i64 0)).setCell (p := ⟨w.heap.size, 11, none⟩) (Nat.le_refl _) (.int .i64 0))
          refine (fun (key : ∀ W, CellsAt W w.heap.size (foundCells Stm.st0) → Below w.heap.size w W → bodyPost _ _ _ _ _ W) => key _ F B) ?_
          intro W F B
          exact read_ret hr F rfl B rfl rfl rfl rfl
        · have hnx : Hid (Stm.runP (L s) (((L p).drop (k + 1)).map toPc) (Stm.setDig 1 v st.at_ { st with at_ := b1 }) = R) := run_drop_of hlt hq.out hst.out hrun.out
          clear hst hq hrun
          rw [show numV (b1, v, true) = .tuple #[.int .i64 v, .int .i64 b1] from rfl]
          go_wp2_with fail
          all_goals (try (exfalso; omega))
          go_roundw
          case rel => exact ⟨k + 1, Stm.setDig 1 v st.at_ { st with at_ := b1 }, by omega, by go_num, by go_num, by rw [Stm.at_setDig]; exact hle1, hnx, ((A.out.set 3 (by simp [foundCells]) (.int .i64 v)).set 8 (by simp [foundCells]) (.int .i64 st.at_)), ((Z.out.other (c := w.heap.size + 1) (by omega) 3 (.int .i64 v)).other (c := w.heap.size + 1) (by omega) 8 (.int .i64 st.at_)), ((hbr.out.setCell (p := ⟨w.heap.size + 1, 3, none⟩) (by show w.heap.size ≤ w.heap.size + 1; omega) (.int .i64 v)).setCell (p := ⟨w.heap.size + 1, 8, none⟩) (by show w.heap.size ≤ w.heap.size + 1; omega) (.int .i64 st.at_))⟩
          case measure => simp [intOf]; omega
      · have hv : (p[k].toNat : Int) = 104 := by rw [hc]; rfl
        obtain ⟨r, hr1⟩ := name_it (Stm.digs (L s) 2 false st.at_ 0)
        have hst := Lib.hid (step_dig (s := L s) (w := 2) (b := false) (f := 2) (st := st) hr1.out)
        have hle := digs_le (L s) 2 false st.at_ 0 (by rw [HLs.out]; exact hat) (by omega)
        rw [hr1.out, HLs.out] at hle
        have hq : Hid (toPc p[k] = .dig 2 false 2) := by rw [hc]; rfl
        clear hc
        go_wp2_with fail
        all_goals (try (exfalso; omega))
        refine (rnumber_any s st.at_ 2 false _ hat hs (by decide)).mono ?_; rintro e w3 ⟨rfl, rfl⟩
        rw [hr1.out]
        clear hr1
        have cc := A.out.cell 4 (by simp [foundCells])
        have gg := A.out.free 4
        have cd := A.out.cell 9 (by simp [foundCells])
        have gd := A.out.free 9
        simp only [foundCells, List.getElem_cons_zero, List.getElem_cons_succ] at cc cd
        obtain ⟨b1, v, ok⟩ := r
        dsimp only at hle hst
        obtain ⟨hle1, hle2⟩ := hle
        have hle3 : (b1 : Int) ≤ s.size := by omega
        cases ok
        · have hr : Hid (V = .tuple #[.agg (foundCells Stm.st0).toArray, .bool false, .int .i64 b1]) := by
            rw [← hV.out, ← run_drop_of hlt hq.out hst.out hrun.out]; rfl
          clear hst hq hrun
          rw [show numV (b1, v, false) = .tuple #[.int .i64 (-1), .int .i64 b1] from rfl]
          have z0 := Z.out.cell 0 (by simp [foundCells])
          have z1 := Z.out.cell 1 (by simp [foundCells])
          have z2 := Z.out.cell 2 (by simp [foundCells])
          have z3 := Z.out.cell 3 (by simp [foundCells])
          have z4 := Z.out.cell 4 (by simp [foundCells])
          have z5 := Z.out.cell 5 (by simp [foundCells])
          have z6 := Z.out.cell 6 (by simp [foundCells])
          have z7 := Z.out.cell 7 (by simp [foundCells])
          have z8 := Z.out.cell 8 (by simp [foundCells])
          have z9 := Z.out.cell 9 (by simp [foundCells])
          have z10 := Z.out.cell 10 (by simp [foundCells])
          have z11 := Z.out.cell 11 (by simp [foundCells])
          have y0 := Z.out.free 0
          have y1 := Z.out.free 1
          have y2 := Z.out.free 2
          have y3 := Z.out.free 3
          have y4 := Z.out.free 4
          have y5 := Z.out.free 5
          have y6 := Z.out.free 6
          have y7 := Z.out.free 7
          have y8 := Z.out.free 8
          have y9 := Z.out.free 9
          have y10 := Z.out.free 10
          have y11 := Z.out.free 11
          simp only [foundCells, Stm.st0, List.getElem_cons_zero, List.getElem_cons_succ] at z0 z1 z2 z3 z4 z5 z6 z7 z8 z9 z10 z11
          go_wp2_with fail
          all_goals (try (exfalso; omega))
          have F : CellsAt _ w.heap.size (foundCells Stm.st0) := ((((((((((((((Z.out.other (c := w.heap.size + 1) (by omega) 4 (.int .i64 (-1))).other (c := w.heap.size + 1) (by omega) 9 (.int .i64 st.at_)).set 0 (by simp [foundCells]) (.int .i64 0)).set 1 (by simp [foundCells]) (.int .i64 0)).set 2 (by simp [foundCells]) (.int .i64 0)).set 3 (by simp [foundCells]) (.int .i64 0)).set 4 (by simp [foundCells]) (.int .i64 0)).set 5 (by simp [foundCells]) (.int .i64 0)).set 6 (by simp [foundCells]) (.int .i64 0)).set 7 (by simp [foundCells]) (.int .i64 0)).set 8 (by simp [foundCells]) (.int .i64 0)).set 9 (by simp [foundCells]) (.int .i64 0)).set 10 (by simp [foundCells]) (.int .i64 0)).set 11 (by simp [foundCells]) (.int .i64 0))
          have B := ((((((((((((((hbr.out.setCell (p := ⟨w.heap.size + 1, 4, none⟩) (by show w.heap.size ≤ w.heap.size + 1; omega) (.int .i64 (-1))).setCell (p := ⟨w.heap.size + 1, 9, none⟩) (by show w.heap.size ≤ w.heap.size + 1; omega) (.int .i64 st.at_)).setCell (p := ⟨w.heap.size, 0, none⟩) (Nat.le_refl _) (.int .i64 0)).setCell (p := ⟨w.heap.size, 1, none⟩) (Nat.le_refl _) (.int .i64 0)).setCell (p := ⟨w.heap.size, 2, none⟩) (Nat.le_refl _) (.int .i64 0)).setCell (p := ⟨w.heap.size, 3, none⟩) (Nat.le_refl _) (.int .i64 0)).setCell (p := ⟨w.heap.size, 4, none⟩) (Nat.le_refl _) (.int .i64 0)).setCell (p := ⟨w.heap.size, 5, none⟩) (Nat.le_refl _) (.int .i64 0)).setCell (p := ⟨w.heap.size, 6, none⟩) (Nat.le_refl _) (.int .i64 0)).setCell (p := ⟨w.heap.size, 7, none⟩) (Nat.le_refl _) (.int .i64 0)).setCell (p := ⟨w.heap.size, 8, none⟩) (Nat.le_refl _) (.int .i64 0)).setCell (p := ⟨w.heap.size, 9, none⟩) (Nat.le_refl _) (.int .i64 0)).setCell (p := ⟨w.heap.size, 10, none⟩) (Nat.le_refl _) (.int .i64 0)).setCell (p := ⟨w.heap.size, 11, none⟩) (Nat.le_refl _) (.int .i64 0))
          refine (fun (key : ∀ W, CellsAt W w.heap.size (foundCells Stm.st0) → Below w.heap.size w W → bodyPost _ _ _ _ _ W) => key _ F B) ?_
          intro W F B
          exact read_ret hr F rfl B rfl rfl rfl rfl
        · have hnx : Hid (Stm.runP (L s) (((L p).drop (k + 1)).map toPc) (Stm.setDig 2 v st.at_ { st with at_ := b1 }) = R) := run_drop_of hlt hq.out hst.out hrun.out
          clear hst hq hrun
          rw [show numV (b1, v, true) = .tuple #[.int .i64 v, .int .i64 b1] from rfl]
          go_wp2_with fail
          all_goals (try (exfalso; omega))
          go_roundw
          case rel => exact ⟨k + 1, Stm.setDig 2 v st.at_ { st with at_ := b1 }, by omega, by go_num, by go_num, by rw [Stm.at_setDig]; exact hle1, hnx, ((A.out.set 4 (by simp [foundCells]) (.int .i64 v)).set 9 (by simp [foundCells]) (.int .i64 st.at_)), ((Z.out.other (c := w.heap.size + 1) (by omega) 4 (.int .i64 v)).other (c := w.heap.size + 1) (by omega) 9 (.int .i64 st.at_)), ((hbr.out.setCell (p := ⟨w.heap.size + 1, 4, none⟩) (by show w.heap.size ≤ w.heap.size + 1; omega) (.int .i64 v)).setCell (p := ⟨w.heap.size + 1, 9, none⟩) (by show w.heap.size ≤ w.heap.size + 1; omega) (.int .i64 st.at_))⟩
          case measure => simp [intOf]; omega
      · have hv : (p[k].toNat : Int) = 105 := by rw [hc]; rfl
        obtain ⟨r, hr1⟩ := name_it (Stm.digs (L s) 2 false st.at_ 0)
        have hst := Lib.hid (step_dig (s := L s) (w := 2) (b := false) (f := 3) (st := st) hr1.out)
        have hle := digs_le (L s) 2 false st.at_ 0 (by rw [HLs.out]; exact hat) (by omega)
        rw [hr1.out, HLs.out] at hle
        have hq : Hid (toPc p[k] = .dig 2 false 3) := by rw [hc]; rfl
        clear hc
        go_wp2_with fail
        all_goals (try (exfalso; omega))
        refine (rnumber_any s st.at_ 2 false _ hat hs (by decide)).mono ?_; rintro e w3 ⟨rfl, rfl⟩
        rw [hr1.out]
        clear hr1
        have cc := A.out.cell 5 (by simp [foundCells])
        have gg := A.out.free 5
        have cd := A.out.cell 10 (by simp [foundCells])
        have gd := A.out.free 10
        simp only [foundCells, List.getElem_cons_zero, List.getElem_cons_succ] at cc cd
        obtain ⟨b1, v, ok⟩ := r
        dsimp only at hle hst
        obtain ⟨hle1, hle2⟩ := hle
        have hle3 : (b1 : Int) ≤ s.size := by omega
        cases ok
        · have hr : Hid (V = .tuple #[.agg (foundCells Stm.st0).toArray, .bool false, .int .i64 b1]) := by
            rw [← hV.out, ← run_drop_of hlt hq.out hst.out hrun.out]; rfl
          clear hst hq hrun
          rw [show numV (b1, v, false) = .tuple #[.int .i64 (-1), .int .i64 b1] from rfl]
          have z0 := Z.out.cell 0 (by simp [foundCells])
          have z1 := Z.out.cell 1 (by simp [foundCells])
          have z2 := Z.out.cell 2 (by simp [foundCells])
          have z3 := Z.out.cell 3 (by simp [foundCells])
          have z4 := Z.out.cell 4 (by simp [foundCells])
          have z5 := Z.out.cell 5 (by simp [foundCells])
          have z6 := Z.out.cell 6 (by simp [foundCells])
          have z7 := Z.out.cell 7 (by simp [foundCells])
          have z8 := Z.out.cell 8 (by simp [foundCells])
          have z9 := Z.out.cell 9 (by simp [foundCells])
          have z10 := Z.out.cell 10 (by simp [foundCells])
          have z11 := Z.out.cell 11 (by simp [foundCells])
          have y0 := Z.out.free 0
          have y1 := Z.out.free 1
          have y2 := Z.out.free 2
          have y3 := Z.out.free 3
          have y4 := Z.out.free 4
          have y5 := Z.out.free 5
          have y6 := Z.out.free 6
          have y7 := Z.out.free 7
          have y8 := Z.out.free 8
          have y9 := Z.out.free 9
          have y10 := Z.out.free 10
          have y11 := Z.out.free 11
          simp only [foundCells, Stm.st0, List.getElem_cons_zero, List.getElem_cons_succ] at z0 z1 z2 z3 z4 z5 z6 z7 z8 z9 z10 z11
          go_wp2_with fail
          all_goals (try (exfalso; omega))
          have F : CellsAt _ w.heap.size (foundCells Stm.st0) := ((((((((((((((Z.out.other (c := w.heap.size + 1) (by omega) 5 (.int .i64 (-1))).other (c := w.heap.size + 1) (by omega) 10 (.int .i64 st.at_)).set 0 (by simp [foundCells]) (.int .i64 0)).set 1 (by simp [foundCells]) (.int .i64 0)).set 2 (by simp [foundCells]) (.int .i64 0)).set 3 (by simp [foundCells]) (.int .i64 0)).set 4 (by simp [foundCells]) (.int .i64 0)).set 5 (by simp [foundCells]) (.int .i64 0)).set 6 (by simp [foundCells]) (.int .i64 0)).set 7 (by simp [foundCells]) (.int .i64 0)).set 8 (by simp [foundCells]) (.int .i64 0)).set 9 (by simp [foundCells]) (.int .i64 0)).set 10 (by simp [foundCells]) (.int .i64 0)).set 11 (by simp [foundCells]) (.int .i64 0))
          have B := ((((((((((((((hbr.out.setCell (p := ⟨w.heap.size + 1, 5, none⟩) (by show w.heap.size ≤ w.heap.size + 1; omega) (.int .i64 (-1))).setCell (p := ⟨w.heap.size + 1, 10, none⟩) (by show w.heap.size ≤ w.heap.size + 1; omega) (.int .i64 st.at_)).setCell (p := ⟨w.heap.size, 0, none⟩) (Nat.le_refl _) (.int .i64 0)).setCell (p := ⟨w.heap.size, 1, none⟩) (Nat.le_refl _) (.int .i64 0)).setCell (p := ⟨w.heap.size, 2, none⟩) (Nat.le_refl _) (.int .i64 0)).setCell (p := ⟨w.heap.size, 3, none⟩) (Nat.le_refl _) (.int .i64 0)).setCell (p := ⟨w.heap.size, 4, none⟩) (Nat.le_refl _) (.int .i64 0)).setCell (p := ⟨w.heap.size, 5, none⟩) (Nat.le_refl _) (.int .i64 0)).setCell (p := ⟨w.heap.size, 6, none⟩) (Nat.le_refl _) (.int .i64 0)).setCell (p := ⟨w.heap.size, 7, none⟩) (Nat.le_refl _) (.int .i64 0)).setCell (p := ⟨w.heap.size, 8, none⟩) (Nat.le_refl _) (.int .i64 0)).setCell (p := ⟨w.heap.size, 9, none⟩) (Nat.le_refl _) (.int .i64 0)).setCell (p := ⟨w.heap.size, 10, none⟩) (Nat.le_refl _) (.int .i64 0)).setCell (p := ⟨w.heap.size, 11, none⟩) (Nat.le_refl _) (.int .i64 0))
          refine (fun (key : ∀ W, CellsAt W w.heap.size (foundCells Stm.st0) → Below w.heap.size w W → bodyPost _ _ _ _ _ W) => key _ F B) ?_
          intro W F B
          exact read_ret hr F rfl B rfl rfl rfl rfl
        · have hnx : Hid (Stm.runP (L s) (((L p).drop (k + 1)).map toPc) (Stm.setDig 3 v st.at_ { st with at_ := b1 }) = R) := run_drop_of hlt hq.out hst.out hrun.out
          clear hst hq hrun
          rw [show numV (b1, v, true) = .tuple #[.int .i64 v, .int .i64 b1] from rfl]
          go_wp2_with fail
          all_goals (try (exfalso; omega))
          go_roundw
          case rel => exact ⟨k + 1, Stm.setDig 3 v st.at_ { st with at_ := b1 }, by omega, by go_num, by go_num, by rw [Stm.at_setDig]; exact hle1, hnx, ((A.out.set 5 (by simp [foundCells]) (.int .i64 v)).set 10 (by simp [foundCells]) (.int .i64 st.at_)), ((Z.out.other (c := w.heap.size + 1) (by omega) 5 (.int .i64 v)).other (c := w.heap.size + 1) (by omega) 10 (.int .i64 st.at_)), ((hbr.out.setCell (p := ⟨w.heap.size + 1, 5, none⟩) (by show w.heap.size ≤ w.heap.size + 1; omega) (.int .i64 v)).setCell (p := ⟨w.heap.size + 1, 10, none⟩) (by show w.heap.size ≤ w.heap.size + 1; omega) (.int .i64 st.at_))⟩
          case measure => simp [intOf]; omega
      · have hv : (p[k].toNat : Int) = 115 := by rw [hc]; rfl
        obtain ⟨r, hr1⟩ := name_it (Stm.digs (L s) 2 false st.at_ 0)
        have hst := Lib.hid (step_dig (s := L s) (w := 2) (b := false) (f := 4) (st := st) hr1.out)
        have hle := digs_le (L s) 2 false st.at_ 0 (by rw [HLs.out]; exact hat) (by omega)
        rw [hr1.out, HLs.out] at hle
        have hq : Hid (toPc p[k] = .dig 2 false 4) := by rw [hc]; rfl
        clear hc
        go_wp2_with fail
        all_goals (try (exfalso; omega))
        refine (rnumber_any s st.at_ 2 false _ hat hs (by decide)).mono ?_; rintro e w3 ⟨rfl, rfl⟩
        rw [hr1.out]
        clear hr1
        have cc := A.out.cell 6 (by simp [foundCells])
        have gg := A.out.free 6
        have cd := A.out.cell 11 (by simp [foundCells])
        have gd := A.out.free 11
        simp only [foundCells, List.getElem_cons_zero, List.getElem_cons_succ] at cc cd
        obtain ⟨b1, v, ok⟩ := r
        dsimp only at hle hst
        obtain ⟨hle1, hle2⟩ := hle
        have hle3 : (b1 : Int) ≤ s.size := by omega
        cases ok
        · have hr : Hid (V = .tuple #[.agg (foundCells Stm.st0).toArray, .bool false, .int .i64 b1]) := by
            rw [← hV.out, ← run_drop_of hlt hq.out hst.out hrun.out]; rfl
          clear hst hq hrun
          rw [show numV (b1, v, false) = .tuple #[.int .i64 (-1), .int .i64 b1] from rfl]
          have z0 := Z.out.cell 0 (by simp [foundCells])
          have z1 := Z.out.cell 1 (by simp [foundCells])
          have z2 := Z.out.cell 2 (by simp [foundCells])
          have z3 := Z.out.cell 3 (by simp [foundCells])
          have z4 := Z.out.cell 4 (by simp [foundCells])
          have z5 := Z.out.cell 5 (by simp [foundCells])
          have z6 := Z.out.cell 6 (by simp [foundCells])
          have z7 := Z.out.cell 7 (by simp [foundCells])
          have z8 := Z.out.cell 8 (by simp [foundCells])
          have z9 := Z.out.cell 9 (by simp [foundCells])
          have z10 := Z.out.cell 10 (by simp [foundCells])
          have z11 := Z.out.cell 11 (by simp [foundCells])
          have y0 := Z.out.free 0
          have y1 := Z.out.free 1
          have y2 := Z.out.free 2
          have y3 := Z.out.free 3
          have y4 := Z.out.free 4
          have y5 := Z.out.free 5
          have y6 := Z.out.free 6
          have y7 := Z.out.free 7
          have y8 := Z.out.free 8
          have y9 := Z.out.free 9
          have y10 := Z.out.free 10
          have y11 := Z.out.free 11
          simp only [foundCells, Stm.st0, List.getElem_cons_zero, List.getElem_cons_succ] at z0 z1 z2 z3 z4 z5 z6 z7 z8 z9 z10 z11
          go_wp2_with fail
          all_goals (try (exfalso; omega))
          have F : CellsAt _ w.heap.size (foundCells Stm.st0) := ((((((((((((((Z.out.other (c := w.heap.size + 1) (by omega) 6 (.int .i64 (-1))).other (c := w.heap.size + 1) (by omega) 11 (.int .i64 st.at_)).set 0 (by simp [foundCells]) (.int .i64 0)).set 1 (by simp [foundCells]) (.int .i64 0)).set 2 (by simp [foundCells]) (.int .i64 0)).set 3 (by simp [foundCells]) (.int .i64 0)).set 4 (by simp [foundCells]) (.int .i64 0)).set 5 (by simp [foundCells]) (.int .i64 0)).set 6 (by simp [foundCells]) (.int .i64 0)).set 7 (by simp [foundCells]) (.int .i64 0)).set 8 (by simp [foundCells]) (.int .i64 0)).set 9 (by simp [foundCells]) (.int .i64 0)).set 10 (by simp [foundCells]) (.int .i64 0)).set 11 (by simp [foundCells]) (.int .i64 0))
          have B := ((((((((((((((hbr.out.setCell (p := ⟨w.heap.size + 1, 6, none⟩) (by show w.heap.size ≤ w.heap.size + 1; omega) (.int .i64 (-1))).setCell (p := ⟨w.heap.size + 1, 11, none⟩) (by show w.heap.size ≤ w.heap.size + 1; omega) (.int .i64 st.at_)).setCell (p := ⟨w.heap.size, 0, none⟩) (Nat.le_refl _) (.int .i64 0)).setCell (p := ⟨w.heap.size, 1, none⟩) (Nat.le_refl _) (.int .i64 0)).setCell (p := ⟨w.heap.size, 2, none⟩) (Nat.le_refl _) (.int .i64 0)).setCell (p := ⟨w.heap.size, 3, none⟩) (Nat.le_refl _) (.int .i64 0)).setCell (p := ⟨w.heap.size, 4, none⟩) (Nat.le_refl _) (.int .i64 0)).setCell (p := ⟨w.heap.size, 5, none⟩) (Nat.le_refl _) (.int .i64 0)).setCell (p := ⟨w.heap.size, 6, none⟩) (Nat.le_refl _) (.int .i64 0)).setCell (p := ⟨w.heap.size, 7, none⟩) (Nat.le_refl _) (.int .i64 0)).setCell (p := ⟨w.heap.size, 8, none⟩) (Nat.le_refl _) (.int .i64 0)).setCell (p := ⟨w.heap.size, 9, none⟩) (Nat.le_refl _) (.int .i64 0)).setCell (p := ⟨w.heap.size, 10, none⟩) (Nat.le_refl _) (.int .i64 0)).setCell (p := ⟨w.heap.size, 11, none⟩) (Nat.le_refl _) (.int .i64 0))
          refine (fun (key : ∀ W, CellsAt W w.heap.size (foundCells Stm.st0) → Below w.heap.size w W → bodyPost _ _ _ _ _ W) => key _ F B) ?_
          intro W F B
          exact read_ret hr F rfl B rfl rfl rfl rfl
        · have hnx : Hid (Stm.runP (L s) (((L p).drop (k + 1)).map toPc) (Stm.setDig 4 v st.at_ { st with at_ := b1 }) = R) := run_drop_of hlt hq.out hst.out hrun.out
          clear hst hq hrun
          rw [show numV (b1, v, true) = .tuple #[.int .i64 v, .int .i64 b1] from rfl]
          go_wp2_with fail
          all_goals (try (exfalso; omega))
          go_roundw
          case rel => exact ⟨k + 1, Stm.setDig 4 v st.at_ { st with at_ := b1 }, by omega, by go_num, by go_num, by rw [Stm.at_setDig]; exact hle1, hnx, ((A.out.set 6 (by simp [foundCells]) (.int .i64 v)).set 11 (by simp [foundCells]) (.int .i64 st.at_)), ((Z.out.other (c := w.heap.size + 1) (by omega) 6 (.int .i64 v)).other (c := w.heap.size + 1) (by omega) 11 (.int .i64 st.at_)), ((hbr.out.setCell (p := ⟨w.heap.size + 1, 6, none⟩) (by show w.heap.size ≤ w.heap.size + 1; omega) (.int .i64 v)).setCell (p := ⟨w.heap.size + 1, 11, none⟩) (by show w.heap.size ≤ w.heap.size + 1; omega) (.int .i64 st.at_))⟩
          case measure => simp [intOf]; omega
      · obtain ⟨q0, q1, q2, q3, q4, q5, q6, q7, q8, q9⟩ := hc
        have v0 : ((p[k].toNat : Int) == 119) = false := byte_ne q0
        have v1 : ((p[k].toNat : Int) == 108) = false := byte_ne q1
        have v2 : ((p[k].toNat : Int) == 109) = false := byte_ne q2
        have v3 : ((p[k].toNat : Int) == 100) = false := byte_ne q3
        have v4 : ((p[k].toNat : Int) == 101) = false := byte_ne q4
        have v5 : ((p[k].toNat : Int) == 121) = false := byte_ne q5
        have v6 : ((p[k].toNat : Int) == 99) = false := byte_ne q6
        have v7 : ((p[k].toNat : Int) == 104) = false := byte_ne q7
        have v8 : ((p[k].toNat : Int) == 105) = false := byte_ne q8
        have v9 : ((p[k].toNat : Int) == 115) = false := byte_ne q9
        have hq : Hid (toPc p[k] = .lit p[k]) := by unfold Hid toPc; simp [q0, q1, q2, q3, q4, q5, q6, q7, q8, q9]
        clear q0 q1 q2 q3 q4 q5 q6 q7 q8 q9
        obtain ⟨r, hr1⟩ := name_it (decide ((L s)[st.at_]? = some p[k]))
        have hst := Lib.hid (step_lit (s := L s) (c := p[k]) (st := st))
        rw [hr1.out] at hst
        have hex := Lib.hid (extract_one p k hlt)
        have hpf := Lib.hid (lit_pref (L s) st.at_ p[k])
        rw [hr1.out] at hpf
        have hlen : r = true → Hid (st.at_ + 1 ≤ s.size) := by
          intro h
          rw [← hr1.out, decide_eq_true_eq] at h
          have := (List.getElem?_eq_some_iff.1 h).1
          rw [HLs.out] at this
          exact this
        have Hlen := Lib.hid hlen
        clear hlen hr1
        go_wp2_with fail
        all_goals (try (exfalso; omega))
        rw [hex.out]
        refine (rbegins_b s [p[k]] st.at_ _ hat hs (by simp)).mono ?_; rintro e w3 ⟨rfl, rfl⟩
        rw [hpf.out]
        clear hpf hex
        cases r
        · have hr : Hid (V = .tuple #[.agg (foundCells Stm.st0).toArray, .bool false, .int .i64 st.at_]) := by
            rw [← hV.out, ← run_drop_of hlt hq.out hst.out hrun.out]; rfl
          clear hst hq hrun
          have z0 := Z.out.cell 0 (by simp [foundCells])
          have z1 := Z.out.cell 1 (by simp [foundCells])
          have z2 := Z.out.cell 2 (by simp [foundCells])
          have z3 := Z.out.cell 3 (by simp [foundCells])
          have z4 := Z.out.cell 4 (by simp [foundCells])
          have z5 := Z.out.cell 5 (by simp [foundCells])
          have z6 := Z.out.cell 6 (by simp [foundCells])
          have z7 := Z.out.cell 7 (by simp [foundCells])
          have z8 := Z.out.cell 8 (by simp [foundCells])
          have z9 := Z.out.cell 9 (by simp [foundCells])
          have z10 := Z.out.cell 10 (by simp [foundCells])
          have z11 := Z.out.cell 11 (by simp [foundCells])
          have y0 := Z.out.free 0
          have y1 := Z.out.free 1
          have y2 := Z.out.free 2
          have y3 := Z.out.free 3
          have y4 := Z.out.free 4
          have y5 := Z.out.free 5
          have y6 := Z.out.free 6
          have y7 := Z.out.free 7
          have y8 := Z.out.free 8
          have y9 := Z.out.free 9
          have y10 := Z.out.free 10
          have y11 := Z.out.free 11
          simp only [foundCells, Stm.st0, List.getElem_cons_zero, List.getElem_cons_succ] at z0 z1 z2 z3 z4 z5 z6 z7 z8 z9 z10 z11
          go_wp2_with fail
          all_goals (try (exfalso; omega))
          have F : CellsAt _ w.heap.size (foundCells Stm.st0) := ((((((((((((Z.out.set 0 (by simp [foundCells]) (.int .i64 0)).set 1 (by simp [foundCells]) (.int .i64 0)).set 2 (by simp [foundCells]) (.int .i64 0)).set 3 (by simp [foundCells]) (.int .i64 0)).set 4 (by simp [foundCells]) (.int .i64 0)).set 5 (by simp [foundCells]) (.int .i64 0)).set 6 (by simp [foundCells]) (.int .i64 0)).set 7 (by simp [foundCells]) (.int .i64 0)).set 8 (by simp [foundCells]) (.int .i64 0)).set 9 (by simp [foundCells]) (.int .i64 0)).set 10 (by simp [foundCells]) (.int .i64 0)).set 11 (by simp [foundCells]) (.int .i64 0))
          have B := ((((((((((((hbr.out.setCell (p := ⟨w.heap.size, 0, none⟩) (Nat.le_refl _) (.int .i64 0)).setCell (p := ⟨w.heap.size, 1, none⟩) (Nat.le_refl _) (.int .i64 0)).setCell (p := ⟨w.heap.size, 2, none⟩) (Nat.le_refl _) (.int .i64 0)).setCell (p := ⟨w.heap.size, 3, none⟩) (Nat.le_refl _) (.int .i64 0)).setCell (p := ⟨w.heap.size, 4, none⟩) (Nat.le_refl _) (.int .i64 0)).setCell (p := ⟨w.heap.size, 5, none⟩) (Nat.le_refl _) (.int .i64 0)).setCell (p := ⟨w.heap.size, 6, none⟩) (Nat.le_refl _) (.int .i64 0)).setCell (p := ⟨w.heap.size, 7, none⟩) (Nat.le_refl _) (.int .i64 0)).setCell (p := ⟨w.heap.size, 8, none⟩) (Nat.le_refl _) (.int .i64 0)).setCell (p := ⟨w.heap.size, 9, none⟩) (Nat.le_refl _) (.int .i64 0)).setCell (p := ⟨w.heap.size, 10, none⟩) (Nat.le_refl _) (.int .i64 0)).setCell (p := ⟨w.heap.size, 11, none⟩) (Nat.le_refl _) (.int .i64 0))
          refine (fun (key : ∀ W, CellsAt W w.heap.size (foundCells Stm.st0) → Below w.heap.size w W → bodyPost _ _ _ _ _ W) => key _ F B) ?_
          intro W F B
          exact read_ret hr F rfl B rfl rfl rfl rfl
        · have hnx : Hid (Stm.runP (L s) (((L p).drop (k + 1)).map toPc) { st with at_ := st.at_ + 1 } = R) := run_drop_of hlt hq.out hst.out hrun.out
          have hl2 := (Hlen.out rfl).out
          clear hst hq hrun
          go_wp2_with fail
          all_goals (try (exfalso; omega))
          go_roundw
          case rel => exact ⟨k + 1, { st with at_ := st.at_ + 1 }, by omega, by go_num, by go_num, hl2, hnx, A.out, Z.out, hbr.out⟩
          case measure => simp [intOf]; omega
    · obtain rfl : k = p.size := by omega
      have hr : Hid (V = .tuple #[.agg (foundCells st).toArray, .bool ((st.at_ : Int) == (s.size : Int)), .int .i64 st.at_]) := by
        have := hrun.out
        rw [L_drop_all] at this
        rw [← hV.out, ← this]; rfl
      clear hrun
      obtain ⟨b, hb⟩ := name_it ((st.at_ : Int) == (s.size : Int))
      rw [hb.out] at hr
      have hb' : ((st.at_ : Int) == (s.size : Int)) = b := hb.out
      have c0 := A.out.cell 0 (by simp [foundCells])
      have c1 := A.out.cell 1 (by simp [foundCells])
      have c2 := A.out.cell 2 (by simp [foundCells])
      have c3 := A.out.cell 3 (by simp [foundCells])
      have c4 := A.out.cell 4 (by simp [foundCells])
      have c5 := A.out.cell 5 (by simp [foundCells])
      have c6 := A.out.cell 6 (by simp [foundCells])
      have c7 := A.out.cell 7 (by simp [foundCells])
      have c8 := A.out.cell 8 (by simp [foundCells])
      have c9 := A.out.cell 9 (by simp [foundCells])
      have c10 := A.out.cell 10 (by simp [foundCells])
      have c11 := A.out.cell 11 (by simp [foundCells])
      simp only [foundCells, List.getElem_cons_zero, List.getElem_cons_succ] at c0 c1 c2 c3 c4 c5 c6 c7 c8 c9 c10 c11
      have z0 := Z.out.cell 0 (by simp [foundCells])
      have z1 := Z.out.cell 1 (by simp [foundCells])
      have z2 := Z.out.cell 2 (by simp [foundCells])
      have z3 := Z.out.cell 3 (by simp [foundCells])
      have z4 := Z.out.cell 4 (by simp [foundCells])
      have z5 := Z.out.cell 5 (by simp [foundCells])
      have z6 := Z.out.cell 6 (by simp [foundCells])
      have z7 := Z.out.cell 7 (by simp [foundCells])
      have z8 := Z.out.cell 8 (by simp [foundCells])
      have z9 := Z.out.cell 9 (by simp [foundCells])
      have z10 := Z.out.cell 10 (by simp [foundCells])
      have z11 := Z.out.cell 11 (by simp [foundCells])
      have y0 := Z.out.free 0
      have y1 := Z.out.free 1
      have y2 := Z.out.free 2
      have y3 := Z.out.free 3
      have y4 := Z.out.free 4
      have y5 := Z.out.free 5
      have y6 := Z.out.free 6
      have y7 := Z.out.free 7
      have y8 := Z.out.free 8
      have y9 := Z.out.free 9
      have y10 := Z.out.free 10
      have y11 := Z.out.free 11
      simp only [foundCells, Stm.st0, List.getElem_cons_zero, List.getElem_cons_succ] at z0 z1 z2 z3 z4 z5 z6 z7 z8 z9 z10 z11
      go_wp2_with fail
      all_goals (try (exfalso; omega))
      have F : CellsAt _ w.heap.size (foundCells st) := ((((((((((((Z.out.set 0 (by simp [foundCells]) (.int .i64 st.wd)).set 1 (by simp [foundCells]) (.int .i64 st.mo)).set 2 (by simp [foundCells]) (.int .i64 st.dy)).set 3 (by simp [foundCells]) (.int .i64 st.yr)).set 4 (by simp [foundCells]) (.int .i64 st.hh)).set 5 (by simp [foundCells]) (.int .i64 st.mi)).set 6 (by simp [foundCells]) (.int .i64 st.ss)).set 7 (by simp [foundCells]) (.int .i64 st.dyAt)).set 8 (by simp [foundCells]) (.int .i64 st.yrAt)).set 9 (by simp [foundCells]) (.int .i64 st.hhAt)).set 10 (by simp [foundCells]) (.int .i64 st.miAt)).set 11 (by simp [foundCells]) (.int .i64 st.ssAt))
      have B := ((((((((((((hbr.out.setCell (p := ⟨w.heap.size, 0, none⟩) (Nat.le_refl _) (.int .i64 st.wd)).setCell (p := ⟨w.heap.size, 1, none⟩) (Nat.le_refl _) (.int .i64 st.mo)).setCell (p := ⟨w.heap.size, 2, none⟩) (Nat.le_refl _) (.int .i64 st.dy)).setCell (p := ⟨w.heap.size, 3, none⟩) (Nat.le_refl _) (.int .i64 st.yr)).setCell (p := ⟨w.heap.size, 4, none⟩) (Nat.le_refl _) (.int .i64 st.hh)).setCell (p := ⟨w.heap.size, 5, none⟩) (Nat.le_refl _) (.int .i64 st.mi)).setCell (p := ⟨w.heap.size, 6, none⟩) (Nat.le_refl _) (.int .i64 st.ss)).setCell (p := ⟨w.heap.size, 7, none⟩) (Nat.le_refl _) (.int .i64 st.dyAt)).setCell (p := ⟨w.heap.size, 8, none⟩) (Nat.le_refl _) (.int .i64 st.yrAt)).setCell (p := ⟨w.heap.size, 9, none⟩) (Nat.le_refl _) (.int .i64 st.hhAt)).setCell (p := ⟨w.heap.size, 10, none⟩) (Nat.le_refl _) (.int .i64 st.miAt)).setCell (p := ⟨w.heap.size, 11, none⟩) (Nat.le_refl _) (.int .i64 st.ssAt))
      refine (fun (key : ∀ W, CellsAt W w.heap.size (foundCells st) → Below w.heap.size w W → bodyPost _ _ _ _ _ W) => key _ F B) ?_
      intro W F B
      exact read_ret hr F rfl B rfl rfl rfl rfl
end Go.Proofs.YtjalfddedikibaaGreatDoor
