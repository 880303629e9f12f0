/- The law's totals, lines, same. Lines: of whatever tells entries; the law's lines. 'append' of a slice, empty or not, at a step of a region that draws. -/
import Derived.Test.YtfgaiopkclogmaaGreatDoorMg
import Derived.Test.YtfgaiopkclogmaaGreatDoorLedgPbJ
import Derived.Test.YtfgaiopkclogmaaGreatDoorMf
import Derived.BigQuiet
import Derived.Test.YtfgaiopkclogmaaGreatDoorLedgCaJ
import Derived.Maps.AppendAt
namespace Go.Proofs.YtfgaiopkclogmaaGreatDoor
open Go Go.RowKit Go.MuLone
set_option maxHeartbeats 8000000

set_option maxRecDepth 100000 in
theorem eqArr (a b c d e : Int) (w : World) : (Op.equalIn 10000 63 (.agg #[.int .i64 a, .int .i64 b, .int .i64 c, .int .i64 d, .int .i64 e]) (.agg #[.int .i64 a, .int .i64 b, .int .i64 c, .int .i64 d, .int .i64 e])).run Tryz.prog w = .ok true w := by
  have u3 := Tryz.underlying3
  have a3 := Tryz.isAgg3
  have z3 := Tryz.sizeOf3
  rw [show (10000 : Nat) = 9999 + 1 from rfl, Op.equalIn]
  simp only [Sem.run_bind, run_underlying Tryz.underlying63, Result.andThen_ok]
  simp only [Std.Legacy.Range.forIn_eq_forIn_range', Std.Legacy.Range.size, Nat.sub_zero, Nat.add_sub_cancel, Nat.div_one, List.range'_succ, List.range'_zero, List.forIn_cons, List.forIn_nil]
  go_simp
  try simp

set_option maxRecDepth 100000 in
theorem ltotals_any (n b c1 c2 c3 c4 c5 x y : Int) (w : World) :
    Calls Tryz.prog 27 #[.agg (totC n b c1 c2 c3 c4 c5 x y), .agg (totC n b c1 c2 c3 c4 c5 x y)] w fun e w' => e = .returned (.bool true) ∧ Below w.heap.size w w' := by
  unfold totC
  have hEA := eqArr
  go_enter Tryz.func27, Tryz.ntmps27
  go_wp2_with fail
  go_ret
  exact ⟨rfl, ((Below.refl _ _).alloc (Nat.le_refl _) _).alloc (by rw [show (w.alloc _).heap.size = w.heap.size + 1 from Array.size_push ..]; omega) _⟩

set_option maxRecDepth 100000 in
theorem lsame_any (va vb : Value) (Ba Bb : Nat) (xs : List Tx) (w : World) (ha : w.ownsRow Ba 9 1 va xs.length (strsT xs)) (hb : w.ownsRow Bb 9 1 vb xs.length (strsT xs)) (na : xs.length ≤ 1073741824) :
    Calls Tryz.prog 18 #[va, vb] w fun e w' => e = .returned (.bool true) ∧ Below w.heap.size w w' := by
  have HA := Lib.hid ha
  have HB := Lib.hid hb
  clear ha hb
  obtain ⟨sa, ca, hva⟩ := row_slice HA.out
  obtain ⟨sb, cb, hvb⟩ := row_slice HB.out
  subst hva hvb
  have hnl : ((xs.length : Int) == (xs.length : Int)) = true := by simp
  go_enter Tryz.func18, Tryz.ntmps18
  go_wp2_with fail
  all_goals (try (exfalso; omega))
  go_loopw [5] (fun i wr => ∃ k : Nat, k ≤ xs.length ∧ i = .int .i64 k ∧ Hid (Below w.heap.size w wr)) (fun i _ => xs.length - (intOf i).toNat)
  case atStart => exact ⟨0, Nat.zero_le _, rfl, Below.refl _ _⟩
  case round =>
    obtain ⟨k, hk, rfl, hbr⟩ := hrel
    by_cases hlt : k < xs.length
    · have q0 : (0 : Int) ≤ (k : Int) := by omega
      have q1 : (k : Int) < (xs.length : Int) := by omega
      obtain ⟨ga, rfl⟩ : ∃ g, sa = some ⟨g, 0, none⟩ := by
        rcases HA.out.2 with ⟨_, h0⟩ | ⟨g, cap', cur, h, _⟩
        · omega
        · injection h with h _ _; exact ⟨g, h⟩
      obtain ⟨gb, rfl⟩ : ∃ g, sb = some ⟨g, 0, none⟩ := by
        rcases HB.out.2 with ⟨_, h0⟩ | ⟨g, cap', cur, h, _⟩
        · omega
        · injection h with h _ _; exact ⟨g, h⟩
      have d1 : wr.cell? ⟨ga, k, none⟩ = some (.string (bs xs[k])) := (hbr.out.cell (p := ⟨ga, k, none⟩) (World.ownsRow.lt HA.out ga rfl).2).trans ((HA.out.cellAt k (by omega)).trans (strsT_get xs k hlt))
      have d2 : wr.cell? ⟨gb, k, none⟩ = some (.string (bs xs[k])) := (hbr.out.cell (p := ⟨gb, k, none⟩) (World.ownsRow.lt HB.out gb rfl).2).trans ((HB.out.cellAt k (by omega)).trans (strsT_get xs k hlt))
      obtain ⟨x, hx⟩ := name_it (bs xs[k])
      rw [hx.out] at d1 d2
      clear hx
      have hxx : (x.toList == x.toList) = true := by simp
      go_wp2_with fail
      go_quiet (fail)
      go_wp2_with fail
      go_roundw
      case rel => exact ⟨k + 1, by omega, by go_num, below_drewN hbr.out _⟩
      case measure => simp [intOf]; omega
    · obtain rfl : k = xs.length := by omega
      go_wp2_with fail
      all_goals (try (exfalso; omega))
      go_ret
      exact ⟨rfl, hbr.out⟩
end Go.Proofs.YtfgaiopkclogmaaGreatDoor
namespace Go.Proofs.YtfgaiopkclogmaaGreatDoor
open Go Go.RowKit Go.MuLone
set_option maxHeartbeats 8000000

set_option maxRecDepth 100000 in
theorem lines_ent (pv : Value) (l : List En) (w : World) (hE : EnvL w) (hN : Ent pv l w) (hok : ∀ e ∈ l, okE e) (hl : l.length ≤ 1000000) :
    Calls Tryz.prog 19 #[pv] w fun e w' => (∃ v2, e = .returned v2 ∧ w'.ownsRow w.heap.size 9 1 v2 l.length (linesL l)) ∧ Below w.heap.size w w' := by
  obtain ⟨i0, hi, hz0, hz1, hz2⟩ := info_parts infoStr
  have HE := Lib.hid (hN w (Below.refl _ _))
  have HEN := Lib.hid hE
  have HOK := Lib.hid hok
  have HFIT := Lib.hid hl
  have hF2 : l.length ≤ 1073741824 := by have := HFIT.out; omega
  clear hE hok hN hl
  go_enter Tryz.func19, Tryz.ntmps19
  go_wp2_with fail
  refine HE.out.mono ?_; rintro x w2 ⟨⟨v2, rfl, hown⟩, b2⟩
  have ROW := Lib.hid hown
  have B2 := Lib.hid b2
  have E2 := Lib.hid (HEN.out.next b2)
  clear hown b2 HE HEN
  obtain ⟨sp, cap, hv2⟩ := row_slice ROW.out
  subst hv2
  go_wp2_with fail
  go_loopw [3, 11] (fun out i wr => ∃ k : Nat, k ≤ l.length ∧ i = .int .i64 k ∧ Hid (wr.ownsRow w2.heap.size 9 1 out k (linesL (l.take k))) ∧ Hid (Below w2.heap.size w2 wr)) (fun _ i _ => l.length - (intOf i).toNat)
  case atStart => exact ⟨0, Nat.zero_le _, rfl, World.ownsRow_nil .., Below.refl _ _⟩
  case round =>
    obtain ⟨k, hk, rfl, hO, hbr⟩ := hrel
    obtain ⟨wq, hwq⟩ : ∃ wq, wq = wr := ⟨wr, rfl⟩
    subst hwq
    obtain ⟨so, co, hout⟩ := row_slice hO.out
    subst hout
    by_cases hlt : k < l.length
    · have q0 : (0 : Int) ≤ (k : Int) := by omega
      have q1 : (k : Int) < (l.length : Int) := by omega
      have ROWQ := Lib.hid (row_kept ROW.out (fun g hg => hbr.out.block g (World.ownsRow.lt ROW.out g hg).2))
      obtain ⟨g, rfl⟩ : ∃ g, sp = some ⟨g, 0, none⟩ := by
        rcases ROW.out.2 with ⟨_, h0⟩ | ⟨g, cap', cur, h, _⟩
        · omega
        · injection h with h _ _; exact ⟨g, h⟩
      have HX := Lib.hid (HOK.out l[k] (List.getElem_mem hlt))
      have ck : ∀ i, i < 8 → wq.cell? ⟨g, k * 8 + i, none⟩ = (cellsE l[k])[i]? := fun i hi => (ROWQ.out.cellAt (k * 8 + i) (by omega)).trans (rowE_get l k i hlt hi)
      have ht : Hid (linesL (l.take (k + 1)) = linesL (l.take k) ++ [.string (bs (printL l[k]))]) := by unfold linesL Hid; rw [List.take_succ_eq_append_getElem hlt, List.map_append]; rfl
      obtain ⟨e, he⟩ := name_it l[k]
      rw [he.out] at HX ck ht
      clear he
      have c0 : wq.cell? ⟨g, k * 8, none⟩ = some (.string (bs e.name)) := ck 0 (by decide)
      have c1 : wq.cell? ⟨g, k * 8 + 1, none⟩ = some (.int .i64 e.conn) := ck 1 (by decide)
      have c2 : wq.cell? ⟨g, k * 8 + 2, none⟩ = some (.int .i64 e.numb) := ck 2 (by decide)
      have c3 : wq.cell? ⟨g, k * 8 + 3, none⟩ = some (.string (bs e.meth)) := ck 3 (by decide)
      have c4 : wq.cell? ⟨g, k * 8 + 4, none⟩ = some (.string (bs e.tgt)) := ck 4 (by decide)
      have c5 : wq.cell? ⟨g, k * 8 + 5, none⟩ = some (.int .i64 e.stat) := ck 5 (by decide)
      have c6 : wq.cell? ⟨g, k * 8 + 6, none⟩ = some (.int .i64 e.byts) := ck 6 (by decide)
      have c7 : wq.cell? ⟨g, k * 8 + 7, none⟩ = some (.int .i64 e.tick) := ck 7 (by decide)
      have PR0 := fun wx hx => print_any e wx hx HX.out.ints HX.out.n1 HX.out.n2 HX.out.n3
      rw [HX.out.print] at PR0
      have PRT := Lib.hid PR0
      obtain ⟨pl, hpl⟩ := name_it (bs (printL e))
      rw [hpl.out] at PRT ht
      clear ck PR0 hpl
      unfold encE at PRT
      have dA := Lib.hid (hbr.out.trans (((Below.refl wq.heap.size wq).alloc (Nat.le_refl _) (.cells #[.string (bs e.name), .int .i64 e.conn, .int .i64 e.numb, .string (bs e.meth), .string (bs e.tgt), .int .i64 e.stat, .int .i64 e.byts, .int .i64 e.tick] tE)).mono hbr.out.size))
      have oA := Lib.hid (hO.out.alloc (.cells #[.string (bs e.name), .int .i64 e.conn, .int .i64 e.numb, .string (bs e.meth), .string (bs e.tgt), .int .i64 e.stat, .int .i64 e.byts, .int .i64 e.tick] tE))
      have eA := Lib.hid (E2.out.next dA.out)
      go_wp2_with fail
      all_goals (try (exfalso; omega))
      refine (PRT.out _ eA.out).mono ?_; rintro x w5 ⟨rfl, b5⟩
      have d5 := Lib.hid (dA.out.trans (b5.mono dA.out.size))
      have o5 := Lib.hid (row_kept oA.out (fun g' hg' => b5.block g' (World.ownsRow.lt oA.out g' hg').2))
      clear b5 dA oA eA c0 c1 c2 c3 c4 c5 c6 c7 PRT
      go_wp2_with (at_builtin; refine append1 rfl _ _ 43 rfl w2.heap.size 9 i0 (.string ⟨#[]⟩) 16 Tryz.underlying43 hi hz0 hz1 hz2 rfl o5.out rfl (.string pl) rfl rfl ?_ ?_ ?_ ?_)
      · have := HFIT.out; unfold maxLen; omega
      · have := HFIT.out; omega
      · exact d5.out.size
      intro g6 cap6 w6 hg6 hown6 hb6
      have O6 : Hid (w6.ownsRow w2.heap.size 9 1 (.slice (some ⟨g6, 0, none⟩) (k + 1) cap6) (k + 1) (linesL (l.take (k + 1)))) := by unfold Hid; rw [ht.out]; exact hown6
      have d6 := Lib.hid (d5.out.trans hb6)
      clear hown6 hb6
      go_wp2_with fail
      go_roundw
      case rel => exact ⟨k + 1, by omega, by go_num, O6, d6⟩
      case measure => simp [intOf]; omega
    · obtain rfl : k = l.length := by omega
      have O6 := hO.out
      rw [List.take_length] at O6
      have HO6 := Lib.hid O6
      have dF := Lib.hid (B2.out.trans (hbr.out.mono B2.out.size))
      have HS := Lib.hid B2.out.size
      clear O6 hO
      go_wp2_with fail
      all_goals (try (exfalso; omega))
      go_ret
      refine ⟨⟨_, rfl, ?_⟩, dF.out⟩
      refine ⟨HO6.out.1, ?_⟩
      rcases HO6.out.2 with h | ⟨g, cap, cur, h, hb, rest⟩
      · exact Or.inl h
      · exact Or.inr ⟨g, cap, cur, h, Nat.le_trans HS.out hb, rest⟩

set_option maxRecDepth 100000 in
theorem llines_any (va : Value) (l : List En) (B : Nat) (w : World) (hA : w.ownsRow B tR 8 va l.length (rowE l)) (hok : ∀ e ∈ l, okE e) (hl : l.length ≤ 1000000) :
    Calls Tryz.prog 21 #[va] w fun e w' => (∃ v2, e = .returned v2 ∧ w'.ownsRow w.heap.size 9 1 v2 l.length (linesL l)) ∧ Below w.heap.size w w' := by
  obtain ⟨i0, hi, hz0, hz1, hz2⟩ := info_parts infoStr
  have ROW := Lib.hid hA
  have HOK := Lib.hid hok
  have hl2 : l.length ≤ 1073741824 := by omega
  have HFIT := Lib.hid hl
  clear hA hok hl
  obtain ⟨sp, cap, hv2⟩ := row_slice ROW.out
  subst hv2
  go_enter Tryz.func21, Tryz.ntmps21
  go_wp2_with fail
  go_loopw [3, 4] (fun out i wr => ∃ k : Nat, k ≤ l.length ∧ i = .int .i64 k ∧ Hid (wr.ownsRow w.heap.size 9 1 out k (linesL (l.take k))) ∧ Hid (Below w.heap.size w wr)) (fun _ i _ => l.length - (intOf i).toNat)
  case atStart => exact ⟨0, Nat.zero_le _, rfl, World.ownsRow_lit w #[] 0 (Nat.le_refl _) (by decide) rfl, (Below.refl _ _).alloc (Nat.le_refl _) _⟩
  case round =>
    obtain ⟨k, hk, rfl, hO, hbr⟩ := hrel
    obtain ⟨wq, hwq⟩ : ∃ wq, wq = wr := ⟨wr, rfl⟩
    subst hwq
    obtain ⟨so, co, hout⟩ := row_slice hO.out
    subst hout
    by_cases hlt : k < l.length
    · have q0 : (0 : Int) ≤ (k : Int) := by omega
      have q1 : (k : Int) < (l.length : Int) := by omega
      obtain ⟨g, rfl⟩ : ∃ g, sp = some ⟨g, 0, none⟩ := by
        rcases ROW.out.2 with ⟨_, h0⟩ | ⟨g, cap', cur, h, _⟩
        · omega
        · injection h with h _ _; exact ⟨g, h⟩
      have HG := Lib.hid (World.ownsRow.lt ROW.out g rfl).2
      have HX := Lib.hid (HOK.out l[k] (List.getElem_mem hlt))
      have ck : ∀ i, i < 8 → wq.cell? ⟨g, k * 8 + i, none⟩ = (cellsE l[k])[i]? := fun i hi => (hbr.out.cell (p := ⟨g, k * 8 + i, none⟩) HG.out).trans ((ROW.out.cellAt (k * 8 + i) (by omega)).trans (rowE_get l k i hlt hi))
      have ht : Hid (linesL (l.take (k + 1)) = linesL (l.take k) ++ [.string (bs (printL l[k]))]) := by unfold linesL Hid; rw [List.take_succ_eq_append_getElem hlt, List.map_append]; rfl
      obtain ⟨e, he⟩ := name_it l[k]
      rw [he.out] at HX ck ht
      clear he
      have c0 : wq.cell? ⟨g, k * 8, none⟩ = some (.string (bs e.name)) := ck 0 (by decide)
      have c1 : wq.cell? ⟨g, k * 8 + 1, none⟩ = some (.int .i64 e.conn) := ck 1 (by decide)
      have c2 : wq.cell? ⟨g, k * 8 + 2, none⟩ = some (.int .i64 e.numb) := ck 2 (by decide)
      have c3 : wq.cell? ⟨g, k * 8 + 3, none⟩ = some (.string (bs e.meth)) := ck 3 (by decide)
      have c4 : wq.cell? ⟨g, k * 8 + 4, none⟩ = some (.string (bs e.tgt)) := ck 4 (by decide)
      have c5 : wq.cell? ⟨g, k * 8 + 5, none⟩ = some (.int .i64 e.stat) := ck 5 (by decide)
      have c6 : wq.cell? ⟨g, k * 8 + 6, none⟩ = some (.int .i64 e.byts) := ck 6 (by decide)
      have c7 : wq.cell? ⟨g, k * 8 + 7, none⟩ = some (.int .i64 e.tick) := ck 7 (by decide)
      have PR0 := fun wx => rprint_any e wx HX.out.ints HX.out.n1 HX.out.n2 HX.out.n3
      rw [HX.out.print] at PR0
      have PRT := Lib.hid PR0
      obtain ⟨pl, hpl⟩ := name_it (bs (printL e))
      rw [hpl.out] at PRT ht
      clear ck PR0 hpl
      unfold encE at PRT
      go_wp2_with fail
      all_goals (try (exfalso; omega))
      refine (PRT.out _).mono ?_; rintro x w5 ⟨rfl, b5⟩
      have d5 := Lib.hid (hbr.out.trans (b5.mono hbr.out.size))
      have o5 := Lib.hid (row_kept hO.out (fun g' hg' => b5.block g' (World.ownsRow.lt hO.out g' hg').2))
      clear b5 c0 c1 c2 c3 c4 c5 c6 c7 PRT
      go_wp2_with (at_builtin; refine append1 rfl _ _ 43 rfl w.heap.size 9 i0 (.string ⟨#[]⟩) 16 Tryz.underlying43 hi hz0 hz1 hz2 rfl o5.out rfl (.string pl) rfl rfl ?_ ?_ ?_ ?_)
      · have := HFIT.out; unfold maxLen; omega
      · have := HFIT.out; omega
      · exact d5.out.size
      intro g6 cap6 w6 hg6 hown6 hb6
      have O6 : Hid (w6.ownsRow w.heap.size 9 1 (.slice (some ⟨g6, 0, none⟩) (k + 1) cap6) (k + 1) (linesL (l.take (k + 1)))) := by unfold Hid; rw [ht.out]; exact hown6
      have d6 := Lib.hid (d5.out.trans hb6)
      clear hown6 hb6
      go_wp2_with fail
      go_roundw
      case rel => exact ⟨k + 1, by omega, by go_num, O6, d6⟩
      case measure => simp [intOf]; omega
    · obtain rfl : k = l.length := by omega
      have O6 := hO.out
      rw [List.take_length] at O6
      go_wp2_with fail
      all_goals (try (exfalso; omega))
      go_ret
      exact ⟨⟨_, rfl, O6⟩, hbr.out⟩
theorem lines_strs (l : List En) : linesL l = strsT (l.map printL) := by unfold linesL strsT; rw [List.map_map]; rfl
end Go.Proofs.YtfgaiopkclogmaaGreatDoor
namespace Go.Proofs.YtfgaiopkclogmaaGreatDoor
open Go Go.RowKit

theorem step_append_at {P : Program} {w : World} {ops : Array Oper} {o : Oper} {a : Act} {K : Act → World → Prop} {Q : Exit → Act → World → Prop} {E : Prop} (hgd : o.guard = none) (s x : Operand) (t : TypeId)
    (ho : o.op = .call { callee := .builtin .append, args := #[s, x], argTypes := #[t, t] })
    (base : Nat) (e : TypeId) (i : TypeInfo) (z : Value) (size bytes : Nat) (ht : P.underlying t = some (.slice e)) (hi : P.info? e = some i) (hz : i.zero = some z)
    (hsize : i.size = size) (hby : i.bytes = bytes) (hzs : z.cells.size = size) (hsz : 0 < size)
    (v : Value) (n : Nat) (xs : List Value) (hs : a.eval s = v) (hown : w.ownsRow base e size v n xs)
    (ad : Addr) (m c : Nat) (news : List Value) (hx : a.eval x = .slice (some ad) m c) (hl : news.length = m * size) (hnews : ∀ j u, news[j]? = some u → w.cell? (ad.add j) = some u) (h1 : ∀ u ∈ news, u.oneCell' = true)
    (h63 : n + m ≤ maxLen) (hbytes : (n + m) * bytes ≤ 140737488355328) (hbase : base ≤ w.heap.size)
    (h : ∀ v' w', w'.ownsRow base e size v' (n + m) (xs ++ news) → w.grownBy w' v.ownBlock → (v' = .slice none 0 0 ↔ v = .slice none 0 0 ∧ m = 0) → (v'.ownBlock = v.ownBlock ∨ v'.ownBlock = some w.heap.size) → K (a.put o.dst v') w') :
    if Region.wanted o (yielded ops a.tmps) = true then Oper.wp P o a w K Q else E := by
  have hw : Region.wanted o (yielded ops a.tmps) = true := by simp [Region.wanted, hgd]
  rw [if_pos hw]
  obtain ⟨v', w', hr, h2, h3, h4, h5⟩ := run_append_own_at (P := P) w base t o.type e i z size bytes ht hi hz hsize hby hzs hsz v n xs hown ad m c news hl hnews h1 h63 hbytes hbase
  unfold Oper.wp execOp
  simp only [ho, resolve, invoke, builtin, Sem.run_bind, Sem.run_pure, Result.andThen_ok, List.map_toArray, List.map_cons, List.map_nil, hs, hx, hr]
  exact h v' w' h2 h3 h4 h5
end Go.Proofs.YtfgaiopkclogmaaGreatDoor
