/- LedgerSums: the walk of the law: totals are the sums of the classes' totals, what stands first never rises. -/
import Derived.Test.YtfgaiopkclogmaaGreatDoorLedgSaJ
import Derived.Test.YtfgaiopkclogmaaGreatDoorLedgDpJ
import Derived.Test.YtfgaiopkclogmaaGreatDoorLedgTcJ
import Derived.BigQuiet
namespace Go.Proofs.YtfgaiopkclogmaaGreatDoor
open Go Go.RowKit Go.MuLone Go.WideAt
set_option maxHeartbeats 8000000

theorem tot_at (L : List En) (k : Nat) (hk : k < 5) : (totL L)[2 + k]? = some (.int .i64 (clsL ((k : Int) + 1) L)) := by
  match k, hk with
  | 0, _ => rfl
  | 1, _ => rfl
  | 2, _ => rfl
  | 3, _ => rfl
  | 4, _ => rfl
theorem encFC (k : Nat) : encF (filC k) = .agg #[.string ⟨#[]⟩, .string ⟨#[]⟩, .string ⟨#[]⟩, .int .i64 (100 * ((k : Int) + 1)), .int .i64 (100 * ((k : Int) + 1) + 99)] := rfl
/-- where the law stands: the book, its totals in a box -/
structure SSt (w W : World) (b : Nat) (vb : Value) (L : List En) (m : Nat) : Prop where
  l : LSt w W b vb L
  t : Blk W m tT (totL L)
theorem SSt.next {w W W' : World} {b : Nat} {vb : Value} {L : List En} {m : Nat} (h : SSt w W b vb L m) (hb : Below W.heap.size W W') : SSt w W' b vb L m := ⟨h.l.next hb, h.t.below hb h.t.lt⟩
theorem befT_cases {p q : Tx × Int} (h : befT p q = true) : q.2 < p.2 ∨ (p.2 = q.2 ∧ Op.bytesLess q.1 p.1 = false ∧ q.1 ≠ p.1) := by
  rw [befT_iff] at h
  rcases h with h | ⟨h, h2⟩
  · exact Or.inl h
  · right
    have hne : q.1 ≠ p.1 := by intro e; rw [e, bytes_irrefl] at h2; cases h2
    refine ⟨h, ?_, hne⟩
    rw [less_before, Bool.eq_false_iff]
    intro h3
    have := WideShapes.bytes_trans _ _ _ h2 h3
    rw [bytes_irrefl] at this; cases this

set_option maxRecDepth 100000 in
theorem lawSums_any (v1 : Value) (one : List En) (n : Int) (w : World) (hZ : EnvZ w) (h1 : EnSl w v1 one) (hi1 : ∀ e ∈ one, inE e) (hl1 : one.length ≤ 200000) :
    Calls Tryz.prog 6 #[v1, .int .i64 n] w fun e w' => e = .returned (.bool true) ∧ Below w.heap.size w w' := by
  obtain ⟨p1, cap1, rfl, hc1⟩ := h1
  have HZ := Lib.hid hZ
  have HC1 := Lib.hid hc1
  have HI1 := Lib.hid hi1
  have HL1 := Lib.hid hl1
  have hn1 : one.length ≤ 1073741824 := by omega
  have H5 := Lib.hid hZ.l.env.n
  clear hZ hc1 hi1 hl1
  go_enter Tryz.func6, Tryz.ntmps6
  go_wp2_with fail
  refine (newBook_any w H5.out).mono ?_; rintro x w1 ⟨rfl, hA, b1⟩
  have L1 : Hid (LSt w w1 w.heap.size (.slice none 0 0) []) := ⟨hA, (fun i hi => by
    rcases hi with rfl | hi
    · exact Nat.le_refl _
    · cases hi), b1⟩
  obtain ⟨b, hb⟩ := name_it w.heap.size
  rw [hb.out] at L1
  rw [show (Value.pointer (some ⟨w.heap.size, 0, none⟩)) = Value.pointer (some ⟨b, 0, none⟩) by rw [hb.out]]
  clear hA b1 hb
  go_wp2_with fail
  refine (awake_any w1 (HZ.out.next L1.out.below).l).mono ?_; rintro x w3 ⟨rfl, b3⟩
  have L3 := Lib.hid (L1.out.next b3)
  clear b3 L1
  go_wp2_with fail
  go_loopw [6] (fun i wr => ∃ (k : Nat) (vb : Value), k ≤ one.length ∧ i = .int .i64 k ∧ Hid (LSt w wr b vb (accL ((one.take k).map capE)))) (fun i _ => one.length - (intOf i).toNat)
  case atStart => exact ⟨0, _, Nat.zero_le _, rfl, L3⟩
  clear L3
  case round =>
    obtain ⟨k, vb, hk, rfl, hL⟩ := hrel
    obtain ⟨wq, hwq⟩ : ∃ wq, wq = wr := ⟨wr, rfl⟩
    subst hwq
    have HLN : Hid ((accL ((one.take k).map capE)).length ≤ 200000) := by
      have h1 := accL_len ((one.take k).map capE)
      rw [List.length_map, List.length_take] at h1
      have h4 := HL1.out
      unfold Hid; omega
    by_cases hlt : k < one.length
    · have q0 : (0 : Int) ≤ (k : Int) := by omega
      have q1 : (k : Int) < (one.length : Int) := by omega
      obtain ⟨b1, o1, rfl, hb1, hcell⟩ := HC1.out k hlt
      have HE := Lib.hid (HI1.out one[k] (List.getElem_mem hlt))
      have ht : accL ((one.take (k + 1)).map capE) = addL (accL ((one.take k).map capE)) (capE one[k]) := by
        rw [List.take_succ_eq_append_getElem hlt, List.map_append, List.map_cons, List.map_nil, accL_snoc]
      have hq : ∀ i, i < 8 → wq.cell? ⟨b1, o1 + k * 8 + i, none⟩ = (cellsE one[k])[i]? := fun i hi => (hL.out.below.cell (p := ⟨b1, o1 + k * 8 + i, none⟩) hb1).trans (hcell i hi)
      obtain ⟨e, he⟩ := name_it one[k]
      rw [he.out] at HE ht hq
      have HT := Lib.hid ht
      clear he hcell ht
      have c0 : wq.cell? ⟨b1, o1 + k * 8, none⟩ = some (.string (bs e.name)) := hq 0 (by decide)
      have c1 : wq.cell? ⟨b1, o1 + k * 8 + 1, none⟩ = some (.int .i64 e.conn) := hq 1 (by decide)
      have c2 : wq.cell? ⟨b1, o1 + k * 8 + 2, none⟩ = some (.int .i64 e.numb) := hq 2 (by decide)
      have c3 : wq.cell? ⟨b1, o1 + k * 8 + 3, none⟩ = some (.string (bs e.meth)) := hq 3 (by decide)
      have c4 : wq.cell? ⟨b1, o1 + k * 8 + 4, none⟩ = some (.string (bs e.tgt)) := hq 4 (by decide)
      have c5 : wq.cell? ⟨b1, o1 + k * 8 + 5, none⟩ = some (.int .i64 e.stat) := hq 5 (by decide)
      have c6 : wq.cell? ⟨b1, o1 + k * 8 + 6, none⟩ = some (.int .i64 e.byts) := hq 6 (by decide)
      have c7 : wq.cell? ⟨b1, o1 + k * 8 + 7, none⟩ = some (.int .i64 e.tick) := hq 7 (by decide)
      clear hq
      have B0 : Hid (Below wq.heap.size wq (wq.alloc (.cells #[.string (bs e.name), .int .i64 e.conn, .int .i64 e.numb, .string (bs e.meth), .string (bs e.tgt), .int .i64 e.stat, .int .i64 e.byts, .int .i64 e.tick] tE))) := (Below.refl _ _).alloc (Nat.le_refl _) _
      by_cases hby : 1099511627776 < e.byts
      · have hce : capE e = ⟨e.name, e.meth, e.tgt, e.conn, e.numb, e.tick, e.stat, 1099511627776⟩ := by unfold capE; rw [if_pos hby]
        have HCE := Lib.hid hce
        have hd : decide ((1099511627776 : Int) < e.byts) = true := decide_eq_true hby
        have LA := Lib.hid (hL.out.next ((Below.refl wq.heap.size wq).alloc (Nat.le_refl _) (.cells #[.string (bs e.name), .int .i64 e.conn, .int .i64 e.numb, .string (bs e.meth), .string (bs e.tgt), .int .i64 e.stat, .int .i64 1099511627776, .int .i64 e.tick] tE)))
        have ADD := Lib.hid (add_any b vb _ ⟨e.name, e.meth, e.tgt, e.conn, e.numb, e.tick, e.stat, 1099511627776⟩ _ (HZ.out.next LA.out.below).l.env LA.out.bok (by have := HLN.out; omega) HE.out.n1 HE.out.n2 HE.out.n3)
        unfold visE at ADD
        dsimp only at ADD
        clear hce hby
        go_wp2_with fail
        all_goals (try (exfalso; omega))
        refine ADD.out.mono ?_; rintro x w5 ⟨rfl, hadd⟩
        obtain ⟨vb', L5'⟩ := LA.out.add hadd
        rw [← HCE.out, ← HT.out] at L5'
        have L5 := Lib.hid L5'
        clear hadd L5' ADD LA c0 c1 c2 c3 c4 c5 c6 c7
        go_wp2_with fail
        go_roundw
        case rel => exact ⟨k + 1, vb', by omega, by go_num, L5⟩
        case measure => simp [intOf] <;> omega
      · have hce : capE e = e := by unfold capE; rw [if_neg hby]
        have HCE := Lib.hid hce
        have hd : decide ((1099511627776 : Int) < e.byts) = false := decide_eq_false hby
        have LA := Lib.hid (hL.out.next B0.out)
        have ADD := Lib.hid (add_any b vb _ e _ (HZ.out.next LA.out.below).l.env LA.out.bok (by have := HLN.out; omega) HE.out.n1 HE.out.n2 HE.out.n3)
        unfold visE at ADD
        clear hce hby
        go_wp2_with fail
        all_goals (try (exfalso; omega))
        refine ADD.out.mono ?_; rintro x w5 ⟨rfl, hadd⟩
        obtain ⟨vb', L5'⟩ := LA.out.add hadd
        rw [show addL (accL ((one.take k).map capE)) e = accL ((one.take (k + 1)).map capE) by rw [HT.out, HCE.out]] at L5'
        have L5 := Lib.hid L5'
        clear hadd L5' ADD LA c0 c1 c2 c3 c4 c5 c6 c7
        go_wp2_with fail
        go_roundw
        case rel => exact ⟨k + 1, vb', by omega, by go_num, L5⟩
        case measure => simp [intOf] <;> omega
    · have hd : decide ((k : Int) < (one.length : Int)) = false := decide_eq_false (by omega)
      have hin : ∀ x ∈ (one.take k).map capE, intsE x := by
        intro x hx
        obtain ⟨y, hy, rfl⟩ := List.mem_map.1 hx
        exact (capE_in (HI1.out y (List.mem_of_mem_take hy))).ints
      have hok := accL_ok hin
      have hcap : ∀ x ∈ accL ((one.take k).map capE), x.byts ≤ 1099511627776 := accL_all (fun x hx => by
        obtain ⟨y, hy, rfl⟩ := List.mem_map.1 hx
        exact capE_byts y)
      obtain ⟨L, hLn⟩ := name_it (accL ((one.take k).map capE))
      rw [hLn.out] at hL HLN hok hcap
      have HTM : Hid (∀ x ∈ L, tameE x) := fun x hx => ⟨by have h := (rightE_facts (hok x hx).right).1; exact ⟨h.2.2.2.2.1, h.2.2.2.2.2⟩, (rightE_facts (hok x hx).right).1.2.2.1, hcap x hx⟩
      have HOK := Lib.hid hok
      clear hin hok hcap hLn
      have TOT := Lib.hid (totals_any (.pointer (some ⟨b, 0, none⟩)) L wq (HZ.out.next hL.out.below) (ent_book hL.out.bok) HOK.out (by have := HLN.out; omega))
      have HTL : Hid (totL L = #[.int .i64 (L.length : Nat), .int .i64 (bytesL L), .int .i64 (clsL 1 L), .int .i64 (clsL 2 L), .int .i64 (clsL 3 L), .int .i64 (clsL 4 L), .int .i64 (clsL 5 L), .int .i64 ((cntF (namesL L)).length : Nat), .int .i64 ((cntF (pathsL L)).length : Nat)]) := rfl
      rw [HTL.out] at TOT
      go_wp2_with fail
      refine TOT.out.mono ?_; rintro x w4 ⟨rfl, b4⟩
      have L4 := Lib.hid (hL.out.next b4)
      clear b4 TOT hL
      go_wp2_with fail
      have S4 : Hid (SSt w (w4.alloc (.cells #[.int .i64 (L.length : Nat), .int .i64 (bytesL L), .int .i64 (clsL 1 L), .int .i64 (clsL 2 L), .int .i64 (clsL 3 L), .int .i64 (clsL 4 L), .int .i64 (clsL 5 L), .int .i64 ((cntF (namesL L)).length : Nat), .int .i64 ((cntF (pathsL L)).length : Nat)] tT)) b vb L w4.heap.size) :=
        ⟨L4.out.next ((Below.refl _ _).alloc (Nat.le_refl _) _), by rw [HTL.out]; exact Blk.new w4 tT _⟩
      obtain ⟨m, hm⟩ := name_it w4.heap.size
      rw [hm.out] at S4
      rw [hm.out]
      clear hm L4
      have hE5 := Lib.hid (sumE_all L HTM.out)
      have hB5 := Lib.hid (sumB_all L HTM.out HLN.out)
      obtain ⟨wt, hwt⟩ := name_it (w4.alloc (.cells #[.int .i64 (L.length : Nat), .int .i64 (bytesL L), .int .i64 (clsL 1 L), .int .i64 (clsL 2 L), .int .i64 (clsL 3 L), .int .i64 (clsL 4 L), .int .i64 (clsL 5 L), .int .i64 ((cntF (namesL L)).length : Nat), .int .i64 ((cntF (pathsL L)).length : Nat)] tT))
      rw [hwt.out] at S4
      rw [hwt.out]
      clear hwt
      go_loopw [9, 10, 11] (fun ev bv cv wr => ∃ k : Nat, k ≤ 5 ∧ ev = .int .i64 (sumE L k) ∧ bv = .int .i64 (sumB L k) ∧ cv = .int .i64 k ∧ Hid (SSt w wr b vb L m)) (fun _ _ c _ => 5 - (intOf c).toNat)
      case atStart => exact ⟨0, by omega, rfl, rfl, rfl, S4⟩
      clear S4
      case round =>
        obtain ⟨c, hc, rfl, rfl, rfl, hS⟩ := hrel
        obtain ⟨ws, hws⟩ : ∃ ws, ws = wr := ⟨wr, rfl⟩
        subst hws
        by_cases hlc : c < 5
        · have r0 : (0 : Int) ≤ (c : Int) := by omega
          have r1 : (c : Int) < 5 := by omega
          have rd : decide ((c : Int) < 5) = true := decide_eq_true r1
          have ON := Lib.hid (only_any (.pointer (some ⟨b, 0, none⟩)) L (filC c) ws (HZ.out.next hS.out.l.below) (ent_book hS.out.l.bok) HOK.out (by have := HLN.out; omega) (by simp [filC]))
          rw [encFC, filterC] at ON
          go_wp2_with fail
          all_goals (try (exfalso; omega))
          refine ON.out.mono ?_; rintro x w5 ⟨⟨o, vo, rfl, hbo, ho1, ho2⟩, b5⟩
          have S5 := Lib.hid (hS.out.next b5)
          have O5 := Lib.hid hbo
          clear b5 hbo ho1 ho2 ON hS
          have hse := sumE_bd L c
          have hsb := sumB_bd L HTM.out HLN.out c
          have hce := clsL_le ((c : Int) + 1) L
          have hcb := clsB_bd L HTM.out HLN.out ((c : Int) + 1)
          have hln := HLN.out
          have hle1 : sumE L (c + 1) = sumE L c + clsL ((c : Int) + 1) L := rfl
          have hle2 : sumB L (c + 1) = sumB L c + bytesL (clsF ((c : Int) + 1) L) := rfl
          have OKC : Hid (∀ x ∈ clsF ((c : Int) + 1) L, okE x) := fun x hx => HOK.out x (clsF_mem hx)
          have UT := Lib.hid (totals_any (.pointer (some ⟨o, 0, none⟩)) (clsF ((c : Int) + 1) L) w5 (HZ.out.next S5.out.l.below) (ent_book O5.out) OKC.out (by have := clsF_le ((c : Int) + 1) L; omega))
          have UA := tot_at (clsF ((c : Int) + 1) L) c hlc
          rw [clsL_clsF] at UA
          have TA := Lib.hid (tot_at L c hlc)
          have UL : Hid (totL (clsF ((c : Int) + 1) L) = #[.int .i64 (clsL ((c : Int) + 1) L), .int .i64 (bytesL (clsF ((c : Int) + 1) L)), .int .i64 (clsL 1 (clsF ((c : Int) + 1) L)), .int .i64 (clsL 2 (clsF ((c : Int) + 1) L)), .int .i64 (clsL 3 (clsF ((c : Int) + 1) L)), .int .i64 (clsL 4 (clsF ((c : Int) + 1) L)), .int .i64 (clsL 5 (clsF ((c : Int) + 1) L)), .int .i64 ((cntF (namesL (clsF ((c : Int) + 1) L))).length : Nat), .int .i64 ((cntF (pathsL (clsF ((c : Int) + 1) L))).length : Nat)]) := rfl
          rw [UL.out] at UT UA
          obtain ⟨q, hq⟩ := name_it (clsL ((c : Int) + 1) L)
          obtain ⟨y, hy⟩ := name_it (bytesL (clsF ((c : Int) + 1) L))
          obtain ⟨u1, hu1⟩ := name_it (clsL 1 (clsF ((c : Int) + 1) L))
          obtain ⟨u2, hu2⟩ := name_it (clsL 2 (clsF ((c : Int) + 1) L))
          obtain ⟨u3, hu3⟩ := name_it (clsL 3 (clsF ((c : Int) + 1) L))
          obtain ⟨u4, hu4⟩ := name_it (clsL 4 (clsF ((c : Int) + 1) L))
          obtain ⟨u5, hu5⟩ := name_it (clsL 5 (clsF ((c : Int) + 1) L))
          obtain ⟨u6, hu6⟩ := name_it (((cntF (namesL (clsF ((c : Int) + 1) L))).length : Nat) : Int)
          obtain ⟨u7, hu7⟩ := name_it (((cntF (pathsL (clsF ((c : Int) + 1) L))).length : Nat) : Int)
          rw [hq.out, hy.out, hu1.out, hu2.out, hu3.out, hu4.out, hu5.out, hu6.out, hu7.out] at UT UA
          rw [hq.out] at TA hce hle1
          rw [hy.out] at hcb hle2
          replace UA := Lib.hid UA
          have HQ1 := Lib.hid hle1
          have HQ2 := Lib.hid hle2
          clear hq hy hu1 hu2 hu3 hu4 hu5 hu6 hu7 UL hle1 hle2
          obtain ⟨se, hse'⟩ := name_it (sumE L c)
          obtain ⟨sb, hsb'⟩ := name_it (sumB L c)
          rw [hse'.out] at hse HQ1
          rw [hsb'.out] at hsb HQ2
          rw [hse'.out, hsb'.out]
          clear hse' hsb'
          have hse2 : se ≤ 1000000 := by
            have : (c : Int) * (L.length : Int) ≤ 5 * 200000 := by
              have h1 : (c : Int) ≤ 5 := by omega
              have h2 : (L.length : Int) ≤ 200000 := by omega
              exact Int.mul_le_mul h1 h2 (by omega) (by omega)
            omega
          go_wp2_with fail
          all_goals (try (exfalso; omega))
          refine UT.out.mono ?_; rintro x w6 ⟨rfl, b6⟩
          have S6 := Lib.hid (S5.out.next b6)
          clear b6 S5 O5 UT
          go_wp2_with fail
          all_goals (try (exfalso; omega))
          have S7 : Hid (SSt w (w6.alloc (.cells #[.int .i64 q, .int .i64 y, .int .i64 u1, .int .i64 u2, .int .i64 u3, .int .i64 u4, .int .i64 u5, .int .i64 u6, .int .i64 u7] tT)) b vb L m) := S6.out.next ((Below.refl _ _).alloc (Nat.le_refl _) _)
          have U7 : Hid (Blk (w6.alloc (.cells #[.int .i64 q, .int .i64 y, .int .i64 u1, .int .i64 u2, .int .i64 u3, .int .i64 u4, .int .i64 u5, .int .i64 u6, .int .i64 u7] tT)) w6.heap.size tT #[.int .i64 q, .int .i64 y, .int .i64 u1, .int .i64 u2, .int .i64 u3, .int .i64 u4, .int .i64 u5, .int .i64 u6, .int .i64 u7]) := Blk.new w6 tT _
          obtain ⟨m2, hm2⟩ := name_it w6.heap.size
          obtain ⟨wu, hwu⟩ := name_it (w6.alloc (.cells #[.int .i64 q, .int .i64 y, .int .i64 u1, .int .i64 u2, .int .i64 u3, .int .i64 u4, .int .i64 u5, .int .i64 u6, .int .i64 u7] tT))
          rw [hwu.out] at S7 U7
          rw [hm2.out] at U7
          rw [hm2.out, hwu.out]
          clear hm2 hwu S6
          have x0 : wu.cell? ⟨m2, 2 + c, none⟩ = some (.int .i64 q) := (U7.out.cell (2 + c)).trans UA.out
          have x1 : wu.cell? ⟨m, 2 + c, none⟩ = some (.int .i64 q) := (S7.out.t.cell (2 + c)).trans TA.out
          have x2 : wu.cell? ⟨m2, 0, none⟩ = some (.int .i64 q) := U7.out.cell 0
          have x3 : wu.cell? ⟨m2, 1, none⟩ = some (.int .i64 y) := U7.out.cell 1
          have hqq : (q == q) = true := by simp
          go_quiet (fail)
          have S8 : Hid (SSt w (wu.drewN nq) b vb L m) := S7.out.next (below_drewN (Below.refl _ _) nq)
          go_wp2_with fail
          all_goals (try (exfalso; omega))
          go_roundw
          case rel => exact ⟨c + 1, by omega, by rw [HQ1.out], by rw [HQ2.out], by go_num, S8⟩
          case measure => simp [intOf] <;> omega
        · have hc5 : c = 5 := by omega
          subst hc5
          rw [hE5.out, hB5.out]
          have rd : decide (((5 : Nat) : Int) < 5) = false := by decide
          have LEN := Lib.hid (fun W (hW : Below ws.heap.size ws W) => len_any b vb L W ((hS.out.next hW).l.bok))
          have k0 : ws.cell? ⟨m, 0, none⟩ = some (.int .i64 (L.length : Nat)) := hS.out.t.cell 0
          have k1 : ws.cell? ⟨m, 1, none⟩ = some (.int .i64 (bytesL L)) := hS.out.t.cell 1
          have k4 : ws.cell? ⟨m, 8, none⟩ = some (.int .i64 ((cntF (pathsL L)).length : Nat)) := hS.out.t.cell 8
          have hll : ((L.length : Int) == (L.length : Int)) = true := by simp
          have hbb : (bytesL L == bytesL L) = true := by simp
          go_wp2_with fail
          all_goals (try (exfalso; omega))
          go_quiet ((go_at_call 25; exact Calls.quiet_of_same ((LEN.out _ (below_drewN (Below.refl _ _) _)).mono fun _ _ h => ⟨h.1, h.2.symm⟩)))
          have S2 : Hid (SSt w (ws.drewN nq) b vb L m) := hS.out.next (below_drewN (Below.refl _ _) nq)
          obtain ⟨wv, hwv⟩ := name_it (ws.drewN nq)
          rw [hwv.out] at S2
          rw [hwv.out]
          clear hwv k0 k1 k4 LEN hS
          go_wp2_with fail
          refine (top_any (.pointer (some ⟨b, 0, none⟩)) L n wv (HZ.out.next S2.out.l.below) (ent_book S2.out.l.bok) HOK.out (by have := HLN.out; omega)).mono ?_; rintro x w9 ⟨⟨v9, rfl, hv9⟩, b9⟩
          have S9 := Lib.hid (S2.out.next b9)
          have RW := Lib.hid hv9
          clear b9 hv9 S2
          obtain ⟨P, hP⟩ := name_it (pathsL L)
          have HPL : Hid (P.length = L.length) := by rw [← hP.out]; unfold pathsL Hid; rw [List.length_map]
          have hTL : topL L n = (srtT (cntF P)).take n.toNat := by rw [← hP.out]; rfl
          obtain ⟨TL, hTN⟩ := name_it (topL L n)
          rw [hTN.out] at RW hTL
          have HTL := Lib.hid hTL
          have HSM : Hid (sumC TL ≤ L.length) := by unfold Hid; rw [hTL, ← HPL.out, ← sum_srt P]; exact sum_take_le _ _
          clear hTN hTL
          obtain ⟨sp, cp, hvp⟩ := row_slice RW.out
          subst hvp
          have htn : TL.length ≤ 1073741824 := by
            have h1 : TL.length ≤ (cntF P).length := by rw [HTL.out, List.length_take, srtT_len]; omega
            have h2 := cntF_len P
            have h3 := HPL.out
            have h4 := HLN.out
            omega
          go_wp2_with fail
          go_loopw [15, 16] (fun sv iv wr => ∃ k : Nat, k ≤ TL.length ∧ sv = .int .i64 (sumC (TL.take k) : Nat) ∧ iv = .int .i64 k ∧ Hid (SSt w wr b vb L m) ∧ Hid (Below w9.heap.size w9 wr)) (fun _ i _ => TL.length - (intOf i).toNat)
          case atStart => exact ⟨0, Nat.zero_le _, rfl, rfl, S9, Below.refl _ _⟩
          clear S9
          case round =>
            obtain ⟨k, hk, rfl, rfl, hS, hD⟩ := hrel
            by_cases hlt : k < TL.length
            · obtain ⟨g, rfl⟩ : ∃ g, sp = some ⟨g, 0, none⟩ := by
                rcases RW.out.2 with ⟨_, h0⟩ | ⟨g, cap', cur, h, _⟩
                · omega
                · injection h with h _ _; exact ⟨g, h⟩
              have HG := Lib.hid (World.ownsRow.lt RW.out g rfl).2
              have ck : ∀ j (hj : j < TL.length), wr.cell? ⟨g, j * 2, none⟩ = some (.string (bs TL[j].1)) ∧ wr.cell? ⟨g, j * 2 + 1, none⟩ = some (.int .i64 TL[j].2) := fun j hj =>
                ⟨(hD.out.cell (p := ⟨g, j * 2, none⟩) HG.out).trans ((RW.out.cellAt (j * 2) (by omega)).trans (rowT_get TL j hj).1), (hD.out.cell (p := ⟨g, j * 2 + 1, none⟩) HG.out).trans ((RW.out.cellAt (j * 2 + 1) (by omega)).trans (rowT_get TL j hj).2)⟩
              have hone : 1 ≤ TL[k].2 ∧ TL[k].2 ≤ P.length := by
                have h := HTL.out
                subst h
                exact top_one P n.toNat k hlt
              have hsn := sum_next TL k hlt
              have hst : sumC (TL.take k) ≤ L.length := by
                have h1 := sum_take_le TL k
                have h2 := HSM.out
                omega
              have hpl := HPL.out
              have hln := HLN.out
              have HSN : Hid (((sumC (TL.take (k + 1)) : Nat) : Int) = (sumC (TL.take k) : Nat) + TL[k].2) := by unfold Hid; rw [hsn]; omega
              clear hsn
              obtain ⟨a1, a2⟩ := ck k hlt
              have q1 : (k : Int) < (TL.length : Int) := by omega
              rcases k with _ | j
              · obtain ⟨X, hX⟩ := name_it (bs TL[0].1)
                obtain ⟨cn, hcn⟩ := name_it TL[0].2
                have a1' : wr.cell? ⟨g, 0, none⟩ = some (.string (bs TL[0].1)) := by simpa using a1
                have a2' : wr.cell? ⟨g, 1, none⟩ = some (.int .i64 TL[0].2) := by simpa using a2
                rw [hX.out] at a1'
                rw [hcn.out] at a2' hone HSN
                clear a1 a2 ck hX hcn
                have d1 : decide (cn < 1) = false := decide_eq_false (by omega)
                have hs0 : sumC ([] : List (Tx × Int)) = 0 := rfl
                go_wp2_with fail
                all_goals (try (exfalso; omega))
                go_quiet (fail)
                have S5 : Hid (SSt w (wr.drewN nq) b vb L m) := hS.out.next (below_drewN (Below.refl _ _) nq)
                have D5 : Hid (Below w9.heap.size w9 (wr.drewN nq)) := below_drewN hD.out nq
                go_wp2_with fail
                all_goals (try (exfalso; omega))
                go_roundw
                case rel => exact ⟨1, by omega, by rw [HSN.out]; first | done | rfl | (simp [hs0]; done), rfl, S5, D5⟩
                case measure => simp [intOf] <;> omega
              · have hbf : befT TL[j] TL[j + 1] = true := by
                  have h := HTL.out
                  subst h
                  exact top_next P n.toNat j hlt
                obtain ⟨b1, b2⟩ := ck j (by omega)
                have hcs := befT_cases hbf
                obtain ⟨tx, htx⟩ := name_it TL[j + 1].1
                obtain ⟨ty, hty⟩ := name_it TL[j].1
                obtain ⟨cx, hcx⟩ := name_it TL[j + 1].2
                obtain ⟨cy, hcy⟩ := name_it TL[j].2
                rw [htx.out] at a1 hcs
                rw [hty.out] at b1 hcs
                rw [hcx.out] at a2 hcs hone HSN
                rw [hcy.out] at b2 hcs
                clear htx hty hcx hcy ck hbf
                have w0 : (0 : Int) ≤ (j : Int) := by omega
                have w1 : ((j + 1 : Nat) : Int) = (j : Int) + 1 := by omega
                have w2 : (j : Int) + 1 - 1 = (j : Int) := by omega
                have w3 : IntKind.i64.wrap ((j : Int) + 1 - 1) = (j : Int) := by rw [w2]; exact IntWalk.i64_in _ (by omega)
                have d0 : decide ((0 : Int) < (j : Int) + 1) = true := decide_eq_true (by omega)
                have d1 : decide (cx < 1) = false := decide_eq_false (by omega)
                rw [w1] at q1
                have d5 : decide ((j : Int) + 1 < (TL.length : Int)) = true := decide_eq_true q1
                rcases hcs with hcs | ⟨hcs, hle, hne⟩
                · have d2 : decide (cy < cx) = false := decide_eq_false (by omega)
                  have d3 : (cx == cy) = false := by simp; omega
                  go_wp2_with fail
                  all_goals (try (exfalso; omega))
                  go_quiet (fail)
                  have S5 : Hid (SSt w (wr.drewN nq) b vb L m) := hS.out.next (below_drewN (Below.refl _ _) nq)
                  have D5 : Hid (Below w9.heap.size w9 (wr.drewN nq)) := below_drewN hD.out nq
                  go_wp2_with fail
                  all_goals (try (exfalso; omega))
                  go_roundw
                  case rel => exact ⟨j + 1 + 1, by omega, by rw [HSN.out], by go_num, S5, D5⟩
                  case measure => simp [intOf] <;> omega
                · subst hcs
                  have d2 : decide (cy < cy) = false := decide_eq_false (by omega)
                  have d3 : (cy == cy) = true := by simp
                  have e1 : (bs tx).toList = tx := by rw [toList_L, L_bs]
                  have e2 : (bs ty).toList = ty := by rw [toList_L, L_bs]
                  have d4 : Op.bytesLess (bs tx).toList (bs ty).toList = false := by rw [e1, e2]; exact hle
                  have d6 : ((bs tx).toList == (bs ty).toList) = false := by rw [e1, e2]; simpa using hne
                  have d7 : ¬ (bs tx).toList = (bs ty).toList := by rw [e1, e2]; exact hne
                  clear e1 e2 hle hne
                  go_wp2_with fail
                  all_goals (try (exfalso; omega))
                  go_quiet (fail)
                  have S5 : Hid (SSt w (wr.drewN nq) b vb L m) := hS.out.next (below_drewN (Below.refl _ _) nq)
                  have D5 : Hid (Below w9.heap.size w9 (wr.drewN nq)) := below_drewN hD.out nq
                  go_wp2_with fail
                  all_goals (try (exfalso; omega))
                  go_roundw
                  case rel => exact ⟨j + 1 + 1, by omega, by rw [HSN.out], by go_num, S5, D5⟩
                  case measure => simp [intOf] <;> omega
            · obtain rfl : k = TL.length := by omega
              rw [List.take_length]
              have hsm := HSM.out
              have d0 : decide ((TL.length : Int) < (TL.length : Int)) = false := decide_eq_false (by omega)
              have LEN := Lib.hid (fun W (hW : Below wr.heap.size wr W) => len_any b vb L W ((hS.out.next hW).l.bok))
              have k4 : wr.cell? ⟨m, 8, none⟩ = some (.int .i64 ((cntF (pathsL L)).length : Nat)) := hS.out.t.cell 8
              have DF := Lib.hid hS.out.l.below
              have HQ : Hid ((cntF (pathsL L)).length = (cntF P).length) := by unfold Hid; rw [hP.out]
              have htl : TL.length = min n.toNat (cntF P).length := by rw [HTL.out, List.length_take, srtT_len]
              obtain ⟨qn, hqn⟩ := name_it (cntF P).length
              rw [hqn.out] at htl HQ
              rw [HQ.out] at k4
              by_cases hn : n < 1
              · have h0 : TL.length = 0 := by omega
                have h0' : ((TL.length : Int) == 0) = true := by rw [h0]; rfl
                clear htl
                go_wp2_with fail
                all_goals (try (exfalso; omega))
                go_ret
                exact ⟨by first | rfl | (rw [h0']; done) | (simp [h0]; done), DF.out⟩
              · have d1 : decide (n < 1) = false := decide_eq_false hn
                have d2 : decide (((sumC TL : Nat) : Int) ≤ (L.length : Int)) = true := decide_eq_true (by omega)
                by_cases hq : n < (qn : Int)
                · have d3 : decide (n < (qn : Int)) = true := decide_eq_true hq
                  clear htl
                  go_wp2_with fail
                  all_goals (try (exfalso; omega))
                  refine (LEN.out wr (Below.refl _ _)).mono ?_; rintro x w' ⟨rfl, rfl⟩
                  go_wp2_with fail
                  all_goals (try (exfalso; omega))
                  go_ret
                  exact ⟨rfl, DF.out⟩
                · have d3 : decide (n < (qn : Int)) = false := decide_eq_false hq
                  have hl : TL.length = qn := by omega
                  have hs : sumC TL = L.length := by
                    have h := HTL.out
                    rw [List.take_of_length_le (by rw [srtT_len, hqn.out]; omega)] at h
                    rw [h, sum_srt, HPL.out]
                  clear htl
                  have e1 : ((TL.length : Int) == (qn : Int)) = true := by rw [hl]; simp
                  have e2 : (((sumC TL : Nat) : Int) == (L.length : Int)) = true := by rw [hs]; simp
                  go_wp2_with fail
                  all_goals (try (exfalso; omega))
                  refine (LEN.out wr (Below.refl _ _)).mono ?_; rintro x w' ⟨rfl, rfl⟩
                  go_wp2_with fail
                  all_goals (try (exfalso; omega))
                  refine (LEN.out wr (Below.refl _ _)).mono ?_; rintro x w' ⟨rfl, rfl⟩
                  go_wp2_with fail
                  all_goals (try (exfalso; omega))
                  go_ret
                  exact ⟨rfl, DF.out⟩
end Go.Proofs.YtfgaiopkclogmaaGreatDoor
