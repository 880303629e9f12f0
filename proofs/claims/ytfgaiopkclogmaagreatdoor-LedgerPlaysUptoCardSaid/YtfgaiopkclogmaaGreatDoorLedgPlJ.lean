/- LedgerPlays: every call on a book, in every order: the walk of the law. -/
import Derived.Test.YtfgaiopkclogmaaGreatDoorLedgMdJ
import Derived.Test.YtfgaiopkclogmaaGreatDoorLedgRbJ
import Derived.Test.YtfgaiopkclogmaaGreatDoorLedgRcJ
import Derived.Test.YtfgaiopkclogmaaGreatDoorLedgDpJ
import Derived.Deep.RegionHeld3
import Derived.BigRegion
namespace Go.Proofs.YtfgaiopkclogmaaGreatDoor
open Go Go.RowKit Go.MuLone Go.Sort
set_option maxHeartbeats 16000000

/-- something that is done to a book -/
structure Opn where
  kind : Int
  e : En
  n : Int
  f : Fi
abbrev tO : TypeId := 73
def cellsO (o : Opn) : Array Value := #[.int .i64 o.kind, .string (bs o.e.name), .int .i64 o.e.conn, .int .i64 o.e.numb, .string (bs o.e.meth), .string (bs o.e.tgt), .int .i64 o.e.stat, .int .i64 o.e.byts, .int .i64 o.e.tick, .int .i64 o.n, .string (bs o.f.name), .string (bs o.f.meth), .string (bs o.f.path), .int .i64 o.f.least, .int .i64 o.f.most]
def OpSl (W : World) (v : Value) (l : List Opn) : Prop := ∃ p cap, v = .slice p l.length cap ∧ ∀ j (h : j < l.length), ∃ b off, p = some ⟨b, off, none⟩ ∧ b < W.heap.size ∧ ∀ i, i < 15 → W.cell? ⟨b, off + j * 15 + i, none⟩ = (cellsO l[j])[i]?
structure inO (o : Opn) : Prop where
  e : inE o.e
  k0 : -9223372036854775808 ≤ o.kind
  k1 : o.kind ≤ 9223372036854775807
  path : o.f.path.length ≤ 1048576
/-- a call's number -/
def kindO (k : Int) : Int := (k.tmod 8 + 8) % 8
theorem kindO_bd (k : Int) : 0 ≤ kindO k ∧ kindO k < 8 := by unfold kindO; omega
theorem tmod_bd (k : Int) : -8 < k.tmod 8 ∧ k.tmod 8 < 8 := by
  have h1 := Int.tmod_lt_of_pos k (show (0 : Int) < 8 by decide)
  have h2 := Int.lt_tmod_of_pos k (show (0 : Int) < 8 by decide)
  omega

theorem print_len {e : En} (h : okE e) : (printL e).length ≤ 1048576 := by
  have f := rightE_facts h.right
  have hi := h.ints
  unfold intsE at hi
  have l1 := Lib.itoa_length_le e.conn hi.1.1 hi.1.2
  have l2 := Lib.itoa_length_le e.numb hi.2.1.1 hi.2.1.2
  have l3 := Lib.itoa_length_le e.tick hi.2.2.1.1 hi.2.2.1.2
  have l4 := Lib.itoa_length_le e.stat hi.2.2.2.1.1 hi.2.2.2.1.2
  have l5 := Lib.itoa_length_le e.byts hi.2.2.2.2.1 hi.2.2.2.2.2
  have hq : (quoteL e.tgt).length ≤ 2 * e.tgt.length + 2 := by
    have := esc_len e.tgt
    unfold quoteL; rw [List.length_append, List.length_append]; show 1 + _ + 1 ≤ _; omega
  have c1 : conL.length = 6 := rfl
  have c2 : numbL.length = 8 := rfl
  have c3 : tickL.length = 6 := rfl
  unfold printL
  simp only [List.length_append, List.length_singleton, c1, c2, c3]
  omega
theorem print_parses {e : En} (h : okE e) : parsesB (printL e) = true ∧ parsedE (printL e) = e := by
  have hi := h.ints
  unfold intsE at hi
  obtain ⟨h1, h2, h3⟩ := parse_print h.right (by unfold mostI; exact ⟨hi.1.2, hi.2.1.2, hi.2.2.1.2, hi.2.2.2.2.2⟩)
  refine ⟨?_, h1⟩
  unfold parsesB
  rw [h2, decide_eq_true h3]; rfl
theorem take_all {α : Type} {p : α → Bool} : ∀ {l : List α}, (∀ x ∈ l, p x = true) → l.takeWhile p = l
  | [], _ => rfl
  | a :: l, h => by
    rw [List.takeWhile_cons, if_pos (h a List.mem_cons_self), take_all (fun x hx => h x (List.mem_cons_of_mem _ hx))]
theorem good_lines {l : List En} (h : ∀ e ∈ l, okE e) : goodN (l.map printL) = (l.map printL).length := by
  unfold goodN
  rw [take_all]
  intro x hx
  obtain ⟨e, he, rfl⟩ := List.mem_map.1 hx
  exact (print_parses (h e he)).1
theorem ents_lines {l : List En} (h : ∀ e ∈ l, okE e) : entsL (l.map printL) = l := by
  unfold entsL
  rw [List.map_map]
  conv => rhs; rw [← List.map_id l]
  exact List.map_congr_left fun e he => (print_parses (h e he)).2
/-- the call's struct, the book and the list -/
structure PSt (w W : World) (m : Nat) (o : Opn) (b : Nat) (vb : Value) (gl cl : Nat) (l : List En) : Prop where
  one : OneSt w W b vb l gl cl l
  box : Blk W m tO (cellsO o)
theorem PSt.next {w W W' : World} {m : Nat} {o : Opn} {b : Nat} {vb : Value} {gl cl : Nat} {l : List En} (h : PSt w W m o b vb gl cl l) (hb : Below W.heap.size W W') : PSt w W' m o b vb gl cl l := ⟨h.one.next hb, h.box.below hb h.box.lt⟩
/-- and the filter's struct, as the document has it -/
structure PQt (w W : World) (m m2 : Nat) (o : Opn) (b : Nat) (vb : Value) (gl cl : Nat) (l : List En) : Prop where
  st : PSt w W m o b vb gl cl l
  fb : Blk W m2 tRF (cellsF o.f)
theorem PQt.next {w W W' : World} {m m2 : Nat} {o : Opn} {b : Nat} {vb : Value} {gl cl : Nat} {l : List En} (h : PQt w W m m2 o b vb gl cl l) (hb : Below W.heap.size W W') : PQt w W' m m2 o b vb gl cl l := ⟨h.st.next hb, h.fb.below hb h.fb.lt⟩

set_option maxRecDepth 100000 in
theorem lawPlays_any (v1 : Value) (ops : List Opn) (w : World) (hZ : EnvZ w) (h1 : OpSl w v1 ops) (hi1 : ∀ o ∈ ops, inO o) (hl1 : ops.length ≤ 200000) :
    Calls Tryz.prog 8 #[v1] w fun e w' => e = .returned (.bool true) ∧ Below w.heap.size w w' := by
  obtain ⟨p1, cap1, rfl, hc1⟩ := h1
  have HZ := Lib.hid hZ
  have HC1 := Lib.hid hc1
  have HI1 := Lib.hid hi1
  have HL1 := Lib.hid hl1
  have hn1 : ops.length ≤ 1073741824 := by omega
  have H5 := Lib.hid hZ.l.env.n
  clear hZ hc1 hi1 hl1
  go_enter Tryz.func8, Tryz.ntmps8
  go_wp2_with fail
  refine (newBook_any w H5.out).mono ?_; rintro x w1 ⟨rfl, hA, b1⟩
  have A1 := Lib.hid hA
  have B1 := Lib.hid b1
  obtain ⟨b, hb⟩ := name_it w.heap.size
  rw [hb.out] at A1
  have GB : Hid (w.heap.size ≤ b) := by unfold Hid; rw [hb.out]; exact Nat.le_refl _
  rw [show (Value.pointer (some ⟨w.heap.size, 0, none⟩)) = Value.pointer (some ⟨b, 0, none⟩) by rw [hb.out]]
  clear hA b1 hb
  go_wp2_with fail
  refine (awake_any w1 (HZ.out.next B1.out).l).mono ?_; rintro x w3 ⟨rfl, b3⟩
  have T0 := Lib.hid (OneSt.first (A1.out.next b3) (B1.out.trans (b3.mono B1.out.size)) GB.out)
  have OK0 : Hid (∀ e ∈ ([] : List En), okE e) := fun e he => by cases he
  clear b3 A1 B1 GB
  go_wp2_with fail
  go_loopw [4, 5] (fun lv i wr => ∃ (k : Nat) (vb : Value) (gl cl : Nat) (l : List En), k ≤ ops.length ∧ i = .int .i64 k ∧ lv = .slice (some ⟨gl, 0, none⟩) l.length cl ∧ l.length ≤ k ∧ Hid (∀ e ∈ l, okE e) ∧
      Hid (OneSt w wr b vb l gl cl l)) (fun _ i _ => ops.length - (intOf i).toNat)
  case atStart => exact ⟨0, _, _, _, [], Nat.zero_le _, rfl, rfl, Nat.le_refl _, OK0, T0⟩
  clear T0 OK0
  case round =>
    obtain ⟨k, vb, gl, cl, l, hk, rfl, rfl, hlk, hok, hT⟩ := hrel
    obtain ⟨wq, hwq⟩ : ∃ wq, wq = wr := ⟨wr, rfl⟩
    subst hwq
    have HN1 : Hid (l.length ≤ 200000) := by have h4 := HL1.out; unfold Hid; omega
    have HLK := Lib.hid hlk
    have hn2 : l.length ≤ 200000 := HN1.out
    clear hlk
    by_cases hk1 : k < ops.length
    · have q0 : (0 : Int) ≤ (k : Int) := by omega
      obtain ⟨b1, o1, rfl, hb1, hcell1⟩ := HC1.out k hk1
      have HO := Lib.hid (HI1.out ops[k] (List.getElem_mem hk1))
      have hq : ∀ i, i < 15 → wq.cell? ⟨b1, o1 + k * 15 + i, none⟩ = (cellsO ops[k])[i]? := fun i hi => (hT.out.below.cell (p := ⟨b1, o1 + k * 15 + i, none⟩) hb1).trans (hcell1 i hi)
      obtain ⟨o, ho⟩ := name_it ops[k]
      rw [ho.out] at HO hq
      clear ho hb1 hcell1
      have q1 : (k : Int) < (ops.length : Int) := by omega
      have x0 : wq.cell? ⟨b1, o1 + k * 15, none⟩ = some (.int .i64 o.kind) := hq 0 (by decide)
      have x1 : wq.cell? ⟨b1, o1 + k * 15 + 1, none⟩ = some (.string (bs o.e.name)) := hq 1 (by decide)
      have x2 : wq.cell? ⟨b1, o1 + k * 15 + 2, none⟩ = some (.int .i64 o.e.conn) := hq 2 (by decide)
      have x3 : wq.cell? ⟨b1, o1 + k * 15 + 3, none⟩ = some (.int .i64 o.e.numb) := hq 3 (by decide)
      have x4 : wq.cell? ⟨b1, o1 + k * 15 + 4, none⟩ = some (.string (bs o.e.meth)) := hq 4 (by decide)
      have x5 : wq.cell? ⟨b1, o1 + k * 15 + 5, none⟩ = some (.string (bs o.e.tgt)) := hq 5 (by decide)
      have x6 : wq.cell? ⟨b1, o1 + k * 15 + 6, none⟩ = some (.int .i64 o.e.stat) := hq 6 (by decide)
      have x7 : wq.cell? ⟨b1, o1 + k * 15 + 7, none⟩ = some (.int .i64 o.e.byts) := hq 7 (by decide)
      have x8 : wq.cell? ⟨b1, o1 + k * 15 + 8, none⟩ = some (.int .i64 o.e.tick) := hq 8 (by decide)
      have x9 : wq.cell? ⟨b1, o1 + k * 15 + 9, none⟩ = some (.int .i64 o.n) := hq 9 (by decide)
      have x10 : wq.cell? ⟨b1, o1 + k * 15 + 10, none⟩ = some (.string (bs o.f.name)) := hq 10 (by decide)
      have x11 : wq.cell? ⟨b1, o1 + k * 15 + 11, none⟩ = some (.string (bs o.f.meth)) := hq 11 (by decide)
      have x12 : wq.cell? ⟨b1, o1 + k * 15 + 12, none⟩ = some (.string (bs o.f.path)) := hq 12 (by decide)
      have x13 : wq.cell? ⟨b1, o1 + k * 15 + 13, none⟩ = some (.int .i64 o.f.least) := hq 13 (by decide)
      have x14 : wq.cell? ⟨b1, o1 + k * 15 + 14, none⟩ = some (.int .i64 o.f.most) := hq 14 (by decide)
      have hd1 : decide ((k : Int) < (ops.length : Int)) = true := decide_eq_true q1
      have hkb := tmod_bd o.kind
      obtain ⟨hkb1, hkb2⟩ := hkb
      clear hq
      have P0 : Hid (PSt w (wq.alloc (.cells #[.int .i64 o.kind, .string (bs o.e.name), .int .i64 o.e.conn, .int .i64 o.e.numb, .string (bs o.e.meth), .string (bs o.e.tgt), .int .i64 o.e.stat, .int .i64 o.e.byts, .int .i64 o.e.tick, .int .i64 o.n, .string (bs o.f.name), .string (bs o.f.meth), .string (bs o.f.path), .int .i64 o.f.least, .int .i64 o.f.most] tO)) wq.heap.size o b vb gl cl l) := ⟨hT.out.next ((Below.refl _ _).alloc (Nat.le_refl _) _), Blk.new wq tO _⟩
      have hcs : o.kind.tmod 8 % 8 = 0 ∨ o.kind.tmod 8 % 8 = 1 ∨ o.kind.tmod 8 % 8 = 2 ∨ o.kind.tmod 8 % 8 = 3 ∨ o.kind.tmod 8 % 8 = 4 ∨ o.kind.tmod 8 % 8 = 5 ∨ o.kind.tmod 8 % 8 = 6 ∨ o.kind.tmod 8 % 8 = 7 := by omega
      rcases hcs with hc | hc | hc | hc | hc | hc | hc | hc
      · have e1 : o.kind.tmod 8 % 8 = 0 := hc
        have e2 : (o.kind.tmod 8 + 8) % 8 = 0 := by omega
        clear hc
        go_wp2_with fail
        obtain ⟨m, hm⟩ := name_it wq.heap.size
        rw [hm.out] at P0 ⊢
        obtain ⟨wB, hwB⟩ := name_it (wq.alloc (.cells #[.int .i64 o.kind, .string (bs o.e.name), .int .i64 o.e.conn, .int .i64 o.e.numb, .string (bs o.e.meth), .string (bs o.e.tgt), .int .i64 o.e.stat, .int .i64 o.e.byts, .int .i64 o.e.tick, .int .i64 o.n, .string (bs o.f.name), .string (bs o.f.meth), .string (bs o.f.path), .int .i64 o.f.least, .int .i64 o.f.most] tO))
        rw [hwB.out] at P0 ⊢
        clear hm hwB x0 x1 x2 x3 x4 x5 x6 x7 x8 x9 x10 x11 x12 x13 x14 hT
        have GV := Lib.hid (given_any o.e wB)
        unfold encE at GV
        go_wp2_with fail
        refine GV.out.mono ?_; rintro x w6 ⟨rfl, b6⟩
        have P1 := Lib.hid (P0.out.next b6)
        clear b6 P0 GV
        have RD := Lib.hid (radd_any gl cl l o.e w.heap.size w6 P1.out.one.ra P1.out.one.below.size (by omega) HO.out.e.n1 HO.out.e.n2 HO.out.e.n3)
        unfold encE at RD
        obtain ⟨cd, hcd⟩ := name_it (codeA o.e)
        rw [hcd.out] at RD
        go_wp2_with fail
        refine RD.out.mono ?_; rintro x w7 ⟨gl', cl', rfl, hown, hb7, hg7⟩
        have T3 := Lib.hid (P1.out.one.row hown hb7 hg7)
        have BX3 := Lib.hid (P1.out.box.below hb7 P1.out.box.lt)
        clear hown hb7 hg7 P1 RD
        have y1 : w7.cell? ⟨m, 1, none⟩ = some (.string (bs o.e.name)) := BX3.out.cell 1
        have y2 : w7.cell? ⟨m, 2, none⟩ = some (.int .i64 o.e.conn) := BX3.out.cell 2
        have y3 : w7.cell? ⟨m, 3, none⟩ = some (.int .i64 o.e.numb) := BX3.out.cell 3
        have y4 : w7.cell? ⟨m, 4, none⟩ = some (.string (bs o.e.meth)) := BX3.out.cell 4
        have y5 : w7.cell? ⟨m, 5, none⟩ = some (.string (bs o.e.tgt)) := BX3.out.cell 5
        have y6 : w7.cell? ⟨m, 6, none⟩ = some (.int .i64 o.e.stat) := BX3.out.cell 6
        have y7 : w7.cell? ⟨m, 7, none⟩ = some (.int .i64 o.e.byts) := BX3.out.cell 7
        have y8 : w7.cell? ⟨m, 8, none⟩ = some (.int .i64 o.e.tick) := BX3.out.cell 8
        have ADD := Lib.hid (add_any b vb l o.e w7 (HZ.out.next T3.out.below).l.env T3.out.A (by omega) HO.out.e.n1 HO.out.e.n2 HO.out.e.n3)
        unfold visE at ADD
        rw [hcd.out] at ADD
        clear hcd
        have hcc : (cd == cd) = true := by simp
        go_wp2_with fail
        refine ADD.out.mono ?_; rintro x w8 ⟨rfl, hadd⟩
        obtain ⟨vb', T4'⟩ := T3.out.add hadd
        have T4 := Lib.hid T4'
        have OK4 : Hid (∀ e ∈ addL l o.e, okE e) := addL_ok hok.out HO.out.e.ints
        have LE4 := Lib.hid (addL_len l o.e)
        clear hadd T4' ADD T3 BX3 y1 y2 y3 y4 y5 y6 y7 y8
        go_wp2_with fail
        all_goals (try (exfalso; omega))
        go_roundw
        case rel => exact ⟨k + 1, vb', gl', cl', addL l o.e, by omega, by go_num, rfl, by have h1 := HLK.out; have h2 := LE4.out; omega, OK4, T4⟩
        case measure => simp [intOf] <;> omega
      · have e1 : o.kind.tmod 8 % 8 = 1 := hc
        have e2 : (o.kind.tmod 8 + 8) % 8 = 1 := by omega
        clear hc
        go_wp2_with fail
        obtain ⟨m, hm⟩ := name_it wq.heap.size
        rw [hm.out] at P0 ⊢
        obtain ⟨wB, hwB⟩ := name_it (wq.alloc (.cells #[.int .i64 o.kind, .string (bs o.e.name), .int .i64 o.e.conn, .int .i64 o.e.numb, .string (bs o.e.meth), .string (bs o.e.tgt), .int .i64 o.e.stat, .int .i64 o.e.byts, .int .i64 o.e.tick, .int .i64 o.n, .string (bs o.f.name), .string (bs o.f.meth), .string (bs o.f.path), .int .i64 o.f.least, .int .i64 o.f.most] tO))
        rw [hwB.out] at P0 ⊢
        clear hm hwB x0 x1 x2 x3 x4 x5 x6 x7 x8 x9 x10 x11 x12 x13 x14 hT
        have EN := Lib.hid (entry_ent (.pointer (some ⟨b, 0, none⟩)) l o.n wB (ent_book P0.out.one.A) (by omega))
        obtain ⟨N, hN⟩ := name_it o.n
        rw [hN.out] at EN ⊢
        by_cases hin : 0 ≤ N ∧ N < l.length
        · obtain ⟨j, rfl⟩ : ∃ j : Nat, N = j := ⟨N.toNat, by omega⟩
          have hj : j < l.length := by omega
          rw [entV_yes hj] at EN
          have r0 : (0 : Int) ≤ (j : Int) := by omega
          have r1 : (j : Int) < (l.length : Int) := by omega
          have hdj : decide (j < l.length) = true := decide_eq_true hj
          have hdj1 : decide ((0 : Int) ≤ (j : Int)) = true := decide_eq_true (by omega)
          have hdj2 : decide ((j : Int) < (l.length : Int)) = true := decide_eq_true (by omega)
          have GV := Lib.hid (given_grow l[j])
          have CK : Hid (∀ W, Below wB.heap.size wB W → ∀ i, i < 8 → W.cell? ⟨gl, j * 8 + i, none⟩ = (cellsE l[j])[i]?) := fun W hW i hi => ((P0.out.next hW).one.ra.cellAt (j * 8 + i) (by omega)).trans (rowE_get l j i hj hi)
          obtain ⟨e, he⟩ := name_it l[j]
          rw [he.out] at CK EN GV
          clear he hin
          unfold encE at EN GV
          go_wp2_with fail
          refine EN.out.mono ?_; rintro x w7 ⟨rfl, b7⟩
          have P1 := Lib.hid (P0.out.next b7)
          have B7 := Lib.hid b7
          clear b7 EN
          go_wp2_with fail
          have BX : Hid (Blk (w7.alloc (.cells #[.string (bs e.name), .int .i64 e.conn, .int .i64 e.numb, .string (bs e.meth), .string (bs e.tgt), .int .i64 e.stat, .int .i64 e.byts, .int .i64 e.tick] tE)) w7.heap.size tE (cellsE e)) := Blk.new w7 tE _
          have P2 : Hid (PSt w (w7.alloc (.cells #[.string (bs e.name), .int .i64 e.conn, .int .i64 e.numb, .string (bs e.meth), .string (bs e.tgt), .int .i64 e.stat, .int .i64 e.byts, .int .i64 e.tick] tE)) m o b vb gl cl l) := P1.out.next ((Below.refl _ _).alloc (Nat.le_refl _) _)
          have B8 : Hid (Below wB.heap.size wB (w7.alloc (.cells #[.string (bs e.name), .int .i64 e.conn, .int .i64 e.numb, .string (bs e.meth), .string (bs e.tgt), .int .i64 e.stat, .int .i64 e.byts, .int .i64 e.tick] tE))) := B7.out.alloc B7.out.size _
          have CK2 := Lib.hid (CK.out _ B8.out)
          obtain ⟨m2, hm2⟩ := name_it w7.heap.size
          rw [hm2.out] at BX ⊢
          clear P0 P1 B7 B8 CK hm2
          obtain ⟨wB, hwB⟩ := name_it (w7.alloc (.cells #[.string (bs e.name), .int .i64 e.conn, .int .i64 e.numb, .string (bs e.meth), .string (bs e.tgt), .int .i64 e.stat, .int .i64 e.byts, .int .i64 e.tick] tE))
          rw [hwB.out] at BX P2 CK2 ⊢
          clear hwB
          have hml := BX.out.lt
          have hmm := P2.out.box.lt
          have hgB : gl < wB.heap.size := (World.ownsRow.lt P2.out.one.ra gl rfl).2
          have mixed : Tryz.prog.follows .mixedOrders = true := by kernel_rfl
          have z9 : ∀ n os, (grow (wB.drewN n) os).cell? ⟨m, 9, none⟩ = some (.int .i64 (j : Nat)) := cell_grown (a := ⟨m, 9, none⟩) hmm ((P2.out.box.cell 9).trans (by rw [← hN.out]; rfl))
          have x0 : ∀ n os, (grow (wB.drewN n) os).cell? ⟨m2, 0, none⟩ = some (.string (bs e.name)) := cell_grown (a := ⟨m2, 0, none⟩) hml (BX.out.cell 0)
          have x1 : ∀ n os, (grow (wB.drewN n) os).cell? ⟨m2, 1, none⟩ = some (.int .i64 e.conn) := cell_grown (a := ⟨m2, 1, none⟩) hml (BX.out.cell 1)
          have x2 : ∀ n os, (grow (wB.drewN n) os).cell? ⟨m2, 2, none⟩ = some (.int .i64 e.numb) := cell_grown (a := ⟨m2, 2, none⟩) hml (BX.out.cell 2)
          have x3 : ∀ n os, (grow (wB.drewN n) os).cell? ⟨m2, 3, none⟩ = some (.string (bs e.meth)) := cell_grown (a := ⟨m2, 3, none⟩) hml (BX.out.cell 3)
          have x4 : ∀ n os, (grow (wB.drewN n) os).cell? ⟨m2, 4, none⟩ = some (.string (bs e.tgt)) := cell_grown (a := ⟨m2, 4, none⟩) hml (BX.out.cell 4)
          have x5 : ∀ n os, (grow (wB.drewN n) os).cell? ⟨m2, 5, none⟩ = some (.int .i64 e.stat) := cell_grown (a := ⟨m2, 5, none⟩) hml (BX.out.cell 5)
          have x6 : ∀ n os, (grow (wB.drewN n) os).cell? ⟨m2, 6, none⟩ = some (.int .i64 e.byts) := cell_grown (a := ⟨m2, 6, none⟩) hml (BX.out.cell 6)
          have x7 : ∀ n os, (grow (wB.drewN n) os).cell? ⟨m2, 7, none⟩ = some (.int .i64 e.tick) := cell_grown (a := ⟨m2, 7, none⟩) hml (BX.out.cell 7)
          have c0 : ∀ n os, (grow (wB.drewN n) os).cell? ⟨gl, j * 8, none⟩ = some (.string (bs e.name)) := cell_grown (a := ⟨gl, j * 8, none⟩) hgB (CK2.out 0 (by decide))
          have c1 : ∀ n os, (grow (wB.drewN n) os).cell? ⟨gl, j * 8 + 1, none⟩ = some (.int .i64 e.conn) := cell_grown (a := ⟨gl, j * 8 + 1, none⟩) hgB (CK2.out 1 (by decide))
          have c2 : ∀ n os, (grow (wB.drewN n) os).cell? ⟨gl, j * 8 + 2, none⟩ = some (.int .i64 e.numb) := cell_grown (a := ⟨gl, j * 8 + 2, none⟩) hgB (CK2.out 2 (by decide))
          have c3 : ∀ n os, (grow (wB.drewN n) os).cell? ⟨gl, j * 8 + 3, none⟩ = some (.string (bs e.meth)) := cell_grown (a := ⟨gl, j * 8 + 3, none⟩) hgB (CK2.out 3 (by decide))
          have c4 : ∀ n os, (grow (wB.drewN n) os).cell? ⟨gl, j * 8 + 4, none⟩ = some (.string (bs e.tgt)) := cell_grown (a := ⟨gl, j * 8 + 4, none⟩) hgB (CK2.out 4 (by decide))
          have c5 : ∀ n os, (grow (wB.drewN n) os).cell? ⟨gl, j * 8 + 5, none⟩ = some (.int .i64 e.stat) := cell_grown (a := ⟨gl, j * 8 + 5, none⟩) hgB (CK2.out 5 (by decide))
          have c6 : ∀ n os, (grow (wB.drewN n) os).cell? ⟨gl, j * 8 + 6, none⟩ = some (.int .i64 e.byts) := cell_grown (a := ⟨gl, j * 8 + 6, none⟩) hgB (CK2.out 6 (by decide))
          have c7 : ∀ n os, (grow (wB.drewN n) os).cell? ⟨gl, j * 8 + 7, none⟩ = some (.int .i64 e.tick) := cell_grown (a := ⟨gl, j * 8 + 7, none⟩) hgB (CK2.out 7 (by decide))
          refine wp_region_quiet_grown (by assumption) (by kernel_rfl) ?_
          repeat (go_big_quiet_step ((go_at_call 13; exact (GV.out _).grown_of)))
          refine wpQuiet_nil ?_
          intro _ hw'
          obtain ⟨⟨nq, osq⟩, hw''⟩ := hw'
          subst hw''
          have PE : Hid (PSt w (grow (wB.drewN nq) osq) m o b vb gl cl l) := P2.out.next (below_grow_draw (Below.refl _ _) (Nat.le_refl _) nq osq)
          obtain ⟨wE, hwE⟩ := name_it (grow (wB.drewN nq) osq)
          rw [hwE.out] at PE
          dsimp only
          rw [hwE.out]
          clear x0 x1 x2 x3 x4 x5 x6 x7 hwE z9
          clear c0 c1 c2 c3 c4 c5 c6 c7 P2
          have TE := Lib.hid PE.out.one
          go_wp2_with fail
          all_goals (try (exfalso; omega))
          go_roundw
          case rel => exact ⟨k + 1, vb, gl, cl, l, by omega, by go_num, rfl, by have h1 := HLK.out; omega, hok, TE⟩
          case measure => simp [intOf] <;> omega
        · rw [entV_no hin] at EN
          unfold noS at EN
          have hi : N < 0 ∨ (0 ≤ N ∧ (l.length : Int) ≤ N) := by omega
          clear hin
          rcases hi with hi | ⟨hi, hi'⟩
          · have hdn : decide ((0 : Int) ≤ N) = false := decide_eq_false (by omega)
            go_wp2_with fail
            refine EN.out.mono ?_; rintro x w7 ⟨rfl, b7⟩
            have P1 := Lib.hid (P0.out.next b7)
            clear b7 EN P0
            go_wp2_with fail
            have P2 : Hid (PSt w (w7.alloc (.cells #[.string ⟨#[]⟩, .int .i64 0, .int .i64 0, .string ⟨#[]⟩, .string ⟨#[]⟩, .int .i64 0, .int .i64 0, .int .i64 0] tE)) m o b vb gl cl l) := P1.out.next ((Below.refl _ _).alloc (Nat.le_refl _) _)
            obtain ⟨wB, hwB⟩ := name_it (w7.alloc (.cells #[.string ⟨#[]⟩, .int .i64 0, .int .i64 0, .string ⟨#[]⟩, .string ⟨#[]⟩, .int .i64 0, .int .i64 0, .int .i64 0] tE))
            rw [hwB.out] at P2 ⊢
            clear hwB P1
            have z9 : wB.cell? ⟨m, 9, none⟩ = some (.int .i64 N) := (P2.out.box.cell 9).trans (by rw [← hN.out]; rfl)
            go_quiet (fail)
            have PE : Hid (PSt w (wB.drewN nq) m o b vb gl cl l) := P2.out.next (below_drewN (Below.refl _ _) nq)
            obtain ⟨wE, hwE⟩ := name_it (wB.drewN nq)
            rw [hwE.out] at PE ⊢
            clear hwE z9 P2
            have TE := Lib.hid PE.out.one
            go_wp2_with fail
            all_goals (try (exfalso; omega))
            go_roundw
            case rel => exact ⟨k + 1, vb, gl, cl, l, by omega, by go_num, rfl, by have h1 := HLK.out; omega, hok, TE⟩
            case measure => simp [intOf] <;> omega
          · have hdn0 : decide ((0 : Int) ≤ N) = true := decide_eq_true hi
            have hdn : decide (N < (l.length : Int)) = false := decide_eq_false (by omega)
            go_wp2_with fail
            refine EN.out.mono ?_; rintro x w7 ⟨rfl, b7⟩
            have P1 := Lib.hid (P0.out.next b7)
            clear b7 EN P0
            go_wp2_with fail
            have P2 : Hid (PSt w (w7.alloc (.cells #[.string ⟨#[]⟩, .int .i64 0, .int .i64 0, .string ⟨#[]⟩, .string ⟨#[]⟩, .int .i64 0, .int .i64 0, .int .i64 0] tE)) m o b vb gl cl l) := P1.out.next ((Below.refl _ _).alloc (Nat.le_refl _) _)
            obtain ⟨wB, hwB⟩ := name_it (w7.alloc (.cells #[.string ⟨#[]⟩, .int .i64 0, .int .i64 0, .string ⟨#[]⟩, .string ⟨#[]⟩, .int .i64 0, .int .i64 0, .int .i64 0] tE))
            rw [hwB.out] at P2 ⊢
            clear hwB P1
            have z9 : wB.cell? ⟨m, 9, none⟩ = some (.int .i64 N) := (P2.out.box.cell 9).trans (by rw [← hN.out]; rfl)
            go_quiet (fail)
            have PE : Hid (PSt w (wB.drewN nq) m o b vb gl cl l) := P2.out.next (below_drewN (Below.refl _ _) nq)
            obtain ⟨wE, hwE⟩ := name_it (wB.drewN nq)
            rw [hwE.out] at PE ⊢
            clear hwE z9 P2
            have TE := Lib.hid PE.out.one
            go_wp2_with fail
            all_goals (try (exfalso; omega))
            go_roundw
            case rel => exact ⟨k + 1, vb, gl, cl, l, by omega, by go_num, rfl, by have h1 := HLK.out; omega, hok, TE⟩
            case measure => simp [intOf] <;> omega
      · have e1 : o.kind.tmod 8 % 8 = 2 := hc
        have e2 : (o.kind.tmod 8 + 8) % 8 = 2 := by omega
        clear hc
        go_wp2_with fail
        obtain ⟨m, hm⟩ := name_it wq.heap.size
        rw [hm.out] at P0 ⊢
        obtain ⟨wB, hwB⟩ := name_it (wq.alloc (.cells #[.int .i64 o.kind, .string (bs o.e.name), .int .i64 o.e.conn, .int .i64 o.e.numb, .string (bs o.e.meth), .string (bs o.e.tgt), .int .i64 o.e.stat, .int .i64 o.e.byts, .int .i64 o.e.tick, .int .i64 o.n, .string (bs o.f.name), .string (bs o.f.meth), .string (bs o.f.path), .int .i64 o.f.least, .int .i64 o.f.most] tO))
        rw [hwB.out] at P0 ⊢
        clear hm hwB x0 x1 x2 x3 x4 x5 x6 x7 x8 x9 x10 x11 x12 x13 x14 hT
        refine (lines_ent (.pointer (some ⟨b, 0, none⟩)) l wB (HZ.out.next P0.out.one.below).l (ent_book P0.out.one.A) hok.out (by omega)).mono ?_; rintro x w1 ⟨⟨v1, rfl, h1⟩, b1⟩
        have P1 := Lib.hid (P0.out.next b1)
        have V1 := Lib.hid h1
        clear h1 b1 P0
        go_wp2_with fail
        refine (llines_any _ l w.heap.size w1 P1.out.one.ra hok.out (by omega)).mono ?_; rintro x w2 ⟨⟨v2, rfl, h2⟩, b2⟩
        have P2 := Lib.hid (P1.out.next b2)
        have V1' := Lib.hid (row_kept V1.out (fun g hg => b2.block g (World.ownsRow.lt V1.out g hg).2))
        have V2 := Lib.hid h2
        clear h2 b2 P1 V1
        go_wp2_with fail
        refine (lsame_any v1 v2 _ _ (l.map printL) w2 (by rw [List.length_map, ← lines_strs]; exact V1'.out) (by rw [List.length_map, ← lines_strs]; exact V2.out) (by rw [List.length_map]; omega)).mono ?_; rintro x w4 ⟨rfl, b4⟩
        have TE := Lib.hid (P2.out.one.next b4)
        clear b4 P2 V1' V2
        go_wp2_with fail
        all_goals (try (exfalso; omega))
        go_roundw
        case rel => exact ⟨k + 1, vb, gl, cl, l, by omega, by go_num, rfl, by have h1 := HLK.out; omega, hok, TE⟩
        case measure => simp [intOf] <;> omega
      · have e1 : o.kind.tmod 8 % 8 = 3 := hc
        have e2 : (o.kind.tmod 8 + 8) % 8 = 3 := by omega
        clear hc
        go_wp2_with fail
        obtain ⟨m, hm⟩ := name_it wq.heap.size
        rw [hm.out] at P0 ⊢
        obtain ⟨wB, hwB⟩ := name_it (wq.alloc (.cells #[.int .i64 o.kind, .string (bs o.e.name), .int .i64 o.e.conn, .int .i64 o.e.numb, .string (bs o.e.meth), .string (bs o.e.tgt), .int .i64 o.e.stat, .int .i64 o.e.byts, .int .i64 o.e.tick, .int .i64 o.n, .string (bs o.f.name), .string (bs o.f.meth), .string (bs o.f.path), .int .i64 o.f.least, .int .i64 o.f.most] tO))
        rw [hwB.out] at P0 ⊢
        clear hm hwB x0 x1 x2 x3 x4 x5 x6 x7 x8 x9 x10 x11 x12 x13 x14 hT
        have LT : Hid (∀ wx, Calls Tryz.prog 27 #[.agg (totL l), .agg (totL l)] wx fun e w' => e = .returned (.bool true) ∧ Below wx.heap.size wx w') := fun wx => ltotals_any _ _ _ _ _ _ _ _ _ wx
        have T1 := Lib.hid (fun wx h1 h2 => totals_any (.pointer (some ⟨b, 0, none⟩)) l wx h1 h2 hok.out (by omega))
        have T2 := Lib.hid (fun wx h1 => rtotals_any (.slice (some ⟨gl, 0, none⟩) l.length cl) l w.heap.size wx h1 hok.out (by omega))
        obtain ⟨T, hT⟩ := name_it (totL l)
        rw [hT.out] at LT T1 T2
        clear hT
        go_wp2_with fail
        refine (T1.out wB (HZ.out.next P0.out.one.below) (ent_book P0.out.one.A)).mono ?_; rintro x w1 ⟨rfl, b1⟩
        have P1 := Lib.hid (P0.out.next b1)
        clear b1 P0 T1
        go_wp2_with fail
        refine (T2.out w1 P1.out.one.ra).mono ?_; rintro x w2 ⟨rfl, b2⟩
        have P2 := Lib.hid (P1.out.next b2)
        clear b2 P1 T2
        go_wp2_with fail
        refine (LT.out w2).mono ?_; rintro x w3 ⟨rfl, b3⟩
        have TE := Lib.hid (P2.out.one.next b3)
        clear b3 P2 LT
        go_wp2_with fail
        all_goals (try (exfalso; omega))
        go_roundw
        case rel => exact ⟨k + 1, vb, gl, cl, l, by omega, by go_num, rfl, by have h1 := HLK.out; omega, hok, TE⟩
        case measure => simp [intOf] <;> omega
      · have e1 : o.kind.tmod 8 % 8 = 4 := hc
        have e2 : (o.kind.tmod 8 + 8) % 8 = 4 := by omega
        clear hc
        go_wp2_with fail
        obtain ⟨m, hm⟩ := name_it wq.heap.size
        rw [hm.out] at P0 ⊢
        obtain ⟨wB, hwB⟩ := name_it (wq.alloc (.cells #[.int .i64 o.kind, .string (bs o.e.name), .int .i64 o.e.conn, .int .i64 o.e.numb, .string (bs o.e.meth), .string (bs o.e.tgt), .int .i64 o.e.stat, .int .i64 o.e.byts, .int .i64 o.e.tick, .int .i64 o.n, .string (bs o.f.name), .string (bs o.f.meth), .string (bs o.f.path), .int .i64 o.f.least, .int .i64 o.f.most] tO))
        rw [hwB.out] at P0 ⊢
        clear hm hwB x0 x1 x2 x3 x4 x5 x6 x7 x8 x9 x10 x11 x12 x13 x14 hT
        have TO := Lib.hid (fun W (hP : PSt w W m o b vb gl cl l) => top_any (.pointer (some ⟨b, 0, none⟩)) l o.n W (HZ.out.next hP.one.below) (ent_book hP.one.A) hok.out (by omega))
        have RT := Lib.hid (fun W (hP : PSt w W m o b vb gl cl l) => rtop_any (.slice (some ⟨gl, 0, none⟩) l.length cl) l o.n w.heap.size W hP.one.ra hok.out (by omega))
        have HNT : Hid ((topL l o.n).length ≤ 200000) := by
          have h1 : (topL l o.n).length ≤ (srtT (cntF (pathsL l))).length := by unfold topL topC; rw [List.length_take]; exact Nat.min_le_right _ _
          have h2 := srtT_len (cntF (pathsL l))
          have h3 := cntF_len (pathsL l)
          have h4 : (pathsL l).length = l.length := by unfold pathsL; rw [List.length_map]
          unfold Hid; omega
        obtain ⟨TP, hTP⟩ := name_it (topL l o.n)
        rw [hTP.out] at TO RT HNT
        have PD := Lib.hid (P0.out.next (Below.refl _ _).drew)
        have z9 : wB.cell? ⟨m, 9, none⟩ = some (.int .i64 o.n) := P0.out.box.cell 9
        have HN4 : Hid (TP.length ≤ 1073741824) := by have := HNT.out; unfold Hid; omega
        clear hTP
        go_region_held3 (fun W => W.cell? ⟨m, 9, none⟩ = some (.int .i64 o.n) ∧ Hid (PSt w W m o b vb gl cl l))
          (first | exact ⟨PX.out.box.cell 9, PX⟩ | exact ⟨PD.out.box.cell 9, PD⟩ | exact ⟨z9, P0⟩ | go_keep)
          (first
            | (go_at_call 20; refine (TO.out _ (by first | exact PX.out | exact PD.out | exact P0.out)).mono ?_; rintro x w' ⟨⟨v1, rfl, hv⟩, hb⟩; have BL := Lib.hid hb; have PX := Lib.hid (show PSt w w' m o b vb gl cl l by first | exact PX.out.next hb | exact PD.out.next hb | exact P0.out.next hb); have HY := Lib.hid (fun W (hW : Below w'.heap.size w' W) => row_kept hv (fun g hg => hW.block g (World.ownsRow.lt hv g hg).2)); clear hv hb)
            | (go_at_call 23; refine (RT.out _ (by first | exact PX.out | exact PD.out | exact P0.out)).mono ?_; rintro x w' ⟨⟨v2, rfl, hv⟩, hb⟩; have BL := Lib.hid hb; have PX := Lib.hid (show PSt w w' m o b vb gl cl l by first | exact PX.out.next hb | exact PD.out.next hb | exact P0.out.next hb); have HL := Lib.hid (fun W (hW : Below w'.heap.size w' W) => row_kept hv (fun g hg => hW.block g (World.ownsRow.lt hv g hg).2)); clear hv hb)
            | (go_at_call 22; refine (ltallied_any _ _ _ _ TP _ (by first | exact HY.out _ (Go.RowKit.Below.refl _ _) | exact HY.out _ BL.out) (by first | exact HL.out _ (Go.RowKit.Below.refl _ _) | exact HL.out _ BL.out) HN4.out).mono ?_; rintro x w' ⟨rfl, hb⟩; have PX := Lib.hid (PX.out.next hb)))
        all_goals (have TE := Lib.hid PX.out.one)
        all_goals (clear PX P0 PD z9)
        all_goals (go_wp2_with fail)
        all_goals (try (exfalso; omega))
        all_goals go_roundw
        all_goals first | exact ⟨k + 1, vb, gl, cl, l, by omega, by go_num, rfl, by have h1 := HLK.out; omega, hok, TE⟩ | (simp [intOf] <;> omega)
      · have e1 : o.kind.tmod 8 % 8 = 5 := hc
        have e2 : (o.kind.tmod 8 + 8) % 8 = 5 := by omega
        clear hc
        go_wp2_with fail
        obtain ⟨m, hm⟩ := name_it wq.heap.size
        rw [hm.out] at P0 ⊢
        obtain ⟨wB, hwB⟩ := name_it (wq.alloc (.cells #[.int .i64 o.kind, .string (bs o.e.name), .int .i64 o.e.conn, .int .i64 o.e.numb, .string (bs o.e.meth), .string (bs o.e.tgt), .int .i64 o.e.stat, .int .i64 o.e.byts, .int .i64 o.e.tick, .int .i64 o.n, .string (bs o.f.name), .string (bs o.f.meth), .string (bs o.f.path), .int .i64 o.f.least, .int .i64 o.f.most] tO))
        rw [hwB.out] at P0 ⊢
        have HZB : Hid (wB.heap.size = m + 1) := by unfold Hid; rw [← hwB.out, ← hm.out]; exact Array.size_push ..
        clear hm hwB x0 x1 x2 x3 x4 x5 x6 x7 x8 x9 x10 x11 x12 x13 x14 hT
        have P1 : Hid (PSt w (wB.alloc (.cells #[.string (bs o.f.name), .string (bs o.f.meth), .string (bs o.f.path), .int .i64 o.f.least, .int .i64 o.f.most] tRF)) m o b vb gl cl l) := P0.out.next ((Below.refl _ _).alloc (Nat.le_refl _) _)
        have BF : Hid (Blk (wB.alloc (.cells #[.string (bs o.f.name), .string (bs o.f.meth), .string (bs o.f.path), .int .i64 o.f.least, .int .i64 o.f.most] tRF)) (m + 1) tRF (cellsF o.f)) := by rw [← HZB.out]; exact Blk.new wB tRF _
        obtain ⟨m2, hm2⟩ := name_it (m + 1)
        rw [hm2.out] at BF ⊢
        obtain ⟨wF, hwF⟩ := name_it (wB.alloc (.cells #[.string (bs o.f.name), .string (bs o.f.meth), .string (bs o.f.path), .int .i64 o.f.least, .int .i64 o.f.most] tRF))
        rw [hwF.out] at P1 BF ⊢
        clear hm2 hwF P0 HZB
        have Q1 : Hid (PQt w wF m m2 o b vb gl cl l) := ⟨P1.out, BF.out⟩
        have QD := Lib.hid (Q1.out.next (Below.refl _ _).drew)
        have HOK2 : Hid (∀ e ∈ l.filter fun e => wantB e o.f, okE e) := fun e he => hok.out e (List.mem_filter.1 he).1
        have ON := Lib.hid (fun W (hP : PQt w W m m2 o b vb gl cl l) => only_any (.pointer (some ⟨b, 0, none⟩)) l o.f W (HZ.out.next hP.st.one.below) (ent_book hP.st.one.A) hok.out (by omega) HO.out.path)
        have RN := Lib.hid (fun W (hP : PQt w W m m2 o b vb gl cl l) => ronly_any (.slice (some ⟨gl, 0, none⟩) l.length cl) l o.f w.heap.size W hP.st.one.ra hok.out (by omega) HO.out.path)
        unfold encF at ON RN
        obtain ⟨LF, hLF⟩ := name_it (l.filter fun e => wantB e o.f)
        rw [hLF.out] at ON RN HOK2
        clear hLF
        have vv0 : wF.cell? ⟨m2, 0, none⟩ = some (.string (bs o.f.name)) := BF.out.cell 0
        have vv1 : wF.cell? ⟨m2, 1, none⟩ = some (.string (bs o.f.meth)) := BF.out.cell 1
        have vv2 : wF.cell? ⟨m2, 2, none⟩ = some (.string (bs o.f.path)) := BF.out.cell 2
        have vv3 : wF.cell? ⟨m2, 3, none⟩ = some (.int .i64 o.f.least) := BF.out.cell 3
        have vv4 : wF.cell? ⟨m2, 4, none⟩ = some (.int .i64 o.f.most) := BF.out.cell 4
        have u10 : wF.cell? ⟨m, 10, none⟩ = some (.string (bs o.f.name)) := P1.out.box.cell 10
        have u11 : wF.cell? ⟨m, 11, none⟩ = some (.string (bs o.f.meth)) := P1.out.box.cell 11
        have u12 : wF.cell? ⟨m, 12, none⟩ = some (.string (bs o.f.path)) := P1.out.box.cell 12
        have u13 : wF.cell? ⟨m, 13, none⟩ = some (.int .i64 o.f.least) := P1.out.box.cell 13
        have u14 : wF.cell? ⟨m, 14, none⟩ = some (.int .i64 o.f.most) := P1.out.box.cell 14
        go_region_held3 (fun W => W.cell? ⟨m, 10, none⟩ = some (.string (bs o.f.name)) ∧ W.cell? ⟨m, 11, none⟩ = some (.string (bs o.f.meth)) ∧ W.cell? ⟨m, 12, none⟩ = some (.string (bs o.f.path)) ∧ W.cell? ⟨m, 13, none⟩ = some (.int .i64 o.f.least) ∧ W.cell? ⟨m, 14, none⟩ = some (.int .i64 o.f.most) ∧ W.cell? ⟨m2, 0, none⟩ = some (.string (bs o.f.name)) ∧ W.cell? ⟨m2, 1, none⟩ = some (.string (bs o.f.meth)) ∧ W.cell? ⟨m2, 2, none⟩ = some (.string (bs o.f.path)) ∧ W.cell? ⟨m2, 3, none⟩ = some (.int .i64 o.f.least) ∧ W.cell? ⟨m2, 4, none⟩ = some (.int .i64 o.f.most) ∧ Hid (PQt w W m m2 o b vb gl cl l))
          (first | exact ⟨PX.out.st.box.cell 10, PX.out.st.box.cell 11, PX.out.st.box.cell 12, PX.out.st.box.cell 13, PX.out.st.box.cell 14, PX.out.fb.cell 0, PX.out.fb.cell 1, PX.out.fb.cell 2, PX.out.fb.cell 3, PX.out.fb.cell 4, PX⟩ | exact ⟨QD.out.st.box.cell 10, QD.out.st.box.cell 11, QD.out.st.box.cell 12, QD.out.st.box.cell 13, QD.out.st.box.cell 14, QD.out.fb.cell 0, QD.out.fb.cell 1, QD.out.fb.cell 2, QD.out.fb.cell 3, QD.out.fb.cell 4, QD⟩ | exact ⟨Q1.out.st.box.cell 10, Q1.out.st.box.cell 11, Q1.out.st.box.cell 12, Q1.out.st.box.cell 13, Q1.out.st.box.cell 14, Q1.out.fb.cell 0, Q1.out.fb.cell 1, Q1.out.fb.cell 2, Q1.out.fb.cell 3, Q1.out.fb.cell 4, Q1⟩ | go_keep)
          (first
            | (go_at_call 14; refine (ON.out _ (by first | exact PX.out | exact QD.out | exact Q1.out)).mono ?_; rintro x w' ⟨hnb, hb⟩; obtain ⟨c, vc, rfl, hbc, -, -⟩ := hnb; have BL := Lib.hid hb; have PX := Lib.hid (show PQt w w' m m2 o b vb gl cl l by first | exact PX.out.next hb | exact QD.out.next hb | exact Q1.out.next hb); have HY := Lib.hid (fun W (hW : Below w'.heap.size w' W) => hbc.next hW); clear hbc hb)
            | (go_at_call 29; refine (RN.out _ (by first | exact PX.out | exact QD.out | exact Q1.out)).mono ?_; rintro x w' ⟨⟨v2, rfl, hv⟩, hb⟩; have BL := Lib.hid hb; have PX := Lib.hid (show PQt w w' m m2 o b vb gl cl l by first | exact PX.out.next hb | exact QD.out.next hb | exact Q1.out.next hb); have HL := Lib.hid (fun W (hW : Below w'.heap.size w' W) => row_kept hv (fun g hg => hW.block g (World.ownsRow.lt hv g hg).2)); clear hv hb)
            | (go_at_call 15; refine (holds_any c vc LF _ _ _ (HZ.out.next PX.out.st.one.below) (by first | exact HY.out _ (Go.RowKit.Below.refl _ _) | exact HY.out _ BL.out) (by first | exact HL.out _ (Go.RowKit.Below.refl _ _) | exact HL.out _ BL.out) HOK2.out).mono ?_; rintro x w' ⟨rfl, hb⟩; have PX := Lib.hid (PX.out.next hb); clear hb))
        all_goals (have TE := Lib.hid PX.out.st.one)
        all_goals (clear PX P1 Q1 QD BF vv0 vv1 vv2 vv3 vv4 u10 u11 u12 u13 u14)
        all_goals (go_wp2_with fail)
        all_goals (try (exfalso; omega))
        all_goals go_roundw
        all_goals first | exact ⟨k + 1, vb, gl, cl, l, by omega, by go_num, rfl, by have h1 := HLK.out; omega, hok, TE⟩ | (simp [intOf] <;> omega)
      · have e1 : o.kind.tmod 8 % 8 = 6 := hc
        have e2 : (o.kind.tmod 8 + 8) % 8 = 6 := by omega
        clear hc
        go_wp2_with fail
        obtain ⟨m, hm⟩ := name_it wq.heap.size
        rw [hm.out] at P0 ⊢
        obtain ⟨wB, hwB⟩ := name_it (wq.alloc (.cells #[.int .i64 o.kind, .string (bs o.e.name), .int .i64 o.e.conn, .int .i64 o.e.numb, .string (bs o.e.meth), .string (bs o.e.tgt), .int .i64 o.e.stat, .int .i64 o.e.byts, .int .i64 o.e.tick, .int .i64 o.n, .string (bs o.f.name), .string (bs o.f.meth), .string (bs o.f.path), .int .i64 o.f.least, .int .i64 o.f.most] tO))
        rw [hwB.out] at P0 ⊢
        clear hm hwB x0 x1 x2 x3 x4 x5 x6 x7 x8 x9 x10 x11 x12 x13 x14 hT
        have hll : ((l.length : Int) == (l.length : Int)) = true := by simp
        go_wp2_with fail
        refine (len_any b vb l wB P0.out.one.A).mono ?_; rintro x w' ⟨rfl, rfl⟩
        have TE := Lib.hid P0.out.one
        clear P0
        go_wp2_with fail
        all_goals (try (exfalso; omega))
        go_roundw
        case rel => exact ⟨k + 1, vb, gl, cl, l, by omega, by go_num, rfl, by have h1 := HLK.out; omega, hok, TE⟩
        case measure => simp [intOf] <;> omega
      · have e1 : o.kind.tmod 8 % 8 = 7 := hc
        have e2 : (o.kind.tmod 8 + 8) % 8 = 7 := by omega
        clear hc
        go_wp2_with fail
        obtain ⟨m, hm⟩ := name_it wq.heap.size
        rw [hm.out] at P0 ⊢
        obtain ⟨wB, hwB⟩ := name_it (wq.alloc (.cells #[.int .i64 o.kind, .string (bs o.e.name), .int .i64 o.e.conn, .int .i64 o.e.numb, .string (bs o.e.meth), .string (bs o.e.tgt), .int .i64 o.e.stat, .int .i64 o.e.byts, .int .i64 o.e.tick, .int .i64 o.n, .string (bs o.f.name), .string (bs o.f.meth), .string (bs o.f.path), .int .i64 o.f.least, .int .i64 o.f.most] tO))
        rw [hwB.out] at P0 ⊢
        clear hm hwB x0 x1 x2 x3 x4 x5 x6 x7 x8 x9 x10 x11 x12 x13 x14 hT
        refine (lines_ent (.pointer (some ⟨b, 0, none⟩)) l wB (HZ.out.next P0.out.one.below).l (ent_book P0.out.one.A) hok.out (by omega)).mono ?_; rintro x w1 ⟨⟨v1, rfl, h1⟩, b1⟩
        have P1 := Lib.hid (P0.out.next b1)
        have S1 : Hid (StSl w1 v1 (l.map printL)) := StSl.of (by rw [List.length_map, ← lines_strs]; exact h1)
        clear h1 b1 P0
        have LO := Lib.hid (load_gen v1 (l.map printL) w1 (HZ.out.next P1.out.one.below).l.env S1.out (fun j hj => by rw [List.getElem_map]; exact print_len (hok.out _ (List.getElem_mem _))) (by have h1 := goodN_le (l.map printL); rw [List.length_map] at h1; omega) (by rw [List.length_map]; omega))
        rw [good_lines hok.out, ents_lines hok.out] at LO
        go_wp2_with fail
        refine LO.out.mono ?_; rintro x w2 ⟨hor, b2⟩
        rcases hor with ⟨-, c, vc, rfl, hLS⟩ | ⟨h, -⟩
        · have P2 := Lib.hid (P1.out.next b2)
          have BC := Lib.hid hLS.bok
          clear hLS b2 P1 S1 LO
          go_wp2_with fail
          refine (holds_any c vc l (.slice (some ⟨gl, 0, none⟩) l.length cl) w.heap.size w2 (HZ.out.next P2.out.one.below) BC.out P2.out.one.ra hok.out).mono ?_; rintro x w3 ⟨rfl, b3⟩
          have TE := Lib.hid (P2.out.one.next b3)
          clear b3 P2 BC
          go_wp2_with fail
          all_goals (try (exfalso; omega))
          go_roundw
          case rel => exact ⟨k + 1, vb, gl, cl, l, by omega, by go_num, rfl, by have h1 := HLK.out; omega, hok, TE⟩
          case measure => simp [intOf] <;> omega
        · exact absurd h (Nat.lt_irrefl _)
    · obtain rfl : k = ops.length := by omega
      have hd1 : decide ((ops.length : Int) < (ops.length : Int)) = false := decide_eq_false (by omega)
      have HH := Lib.hid (holds_any b vb l (.slice (some ⟨gl, 0, none⟩) l.length cl) w.heap.size wq (HZ.out.next hT.out.below) hT.out.A hT.out.ra hok.out)
      have DQ := Lib.hid hT.out.below
      clear hT
      go_wp2_with fail
      refine HH.out.mono ?_; rintro x w5 ⟨rfl, b5⟩
      have D5 := Lib.hid (DQ.out.trans (b5.mono DQ.out.size))
      clear b5
      go_wp2_with fail
      go_ret
      exact ⟨rfl, D5.out⟩
end Go.Proofs.YtfgaiopkclogmaaGreatDoor
