/- The document's totals. -/
import Derived.Test.YtfgaiopkclogmaaGreatDoorLedgCgJ
import Derived.Test.YtfgaiopkclogmaaGreatDoorLedgCiJ
import Derived.Test.YtfgaiopkclogmaaGreatDoorLedgXJ
import Derived.Maps.AppendAt
import Derived.BigRegion
namespace Go.Proofs.YtfgaiopkclogmaaGreatDoor
open Go Go.RowKit Go.MuLone
set_option maxHeartbeats 8000000

abbrev tRT : TypeId := 75
/-- 'append(v, x)', x a cell: what else stays -/
theorem append1k {P : Program} {w : World} {ops : Array Oper} {rest : List Oper} {o : Oper} {a : Act} {Q : Exit → Act → World → Prop} (hgd : o.guard = none) (s x : Operand) (t : TypeId)
    (ho : o.op = .call { callee := .builtin .append, args := #[s, x], argTypes := #[t, t] })
    (base : Nat) (e : TypeId) (i : TypeInfo) (z : Value) (bytes : Nat) (ht : P.underlying t = some (.slice e)) (hi : P.info? e = some i) (hz : i.zero = some z)
    (hsize : i.size = 1) (hby : i.bytes = bytes) (hzs : z.cells.size = 1)
    {v : Value} {n : Nat} {xs : List Value} (hown : w.ownsRow base e 1 v n xs) (hs : a.eval s = v)
    (u : Value) (hu : u.oneCell' = true) {nb : Nat} (hx : a.eval x = .slice (some ⟨nb, 0, none⟩) 1 1) (hnb : nb = w.heap.size)
    (hn : n + 1 ≤ maxLen) (hbytes : (n + 1) * bytes ≤ 140737488355328) (hbase : base ≤ w.heap.size)
    (h : ∀ g cap w', base ≤ g → w'.ownsRow base e 1 (.slice (some ⟨g, 0, none⟩) (n + 1) cap) (n + 1) (xs ++ [u]) → (v.ownBlock = some g ∨ w.heap.size ≤ g) → Keeps (fun j => v.ownBlock = some j) w w' → wpList P ops Q rest (a.put o.dst (.slice (some ⟨g, 0, none⟩) (n + 1) cap)) w') :
    wpList P ops Q (o :: rest) a (w.alloc (.cells #[u] e)) := by
  subst hnb
  have hsz : (w.alloc (.cells #[u] e)).heap.size = w.heap.size + 1 := Array.size_push ..
  have hw : base ≤ (w.alloc (.cells #[u] e)).heap.size := by
    rw [hsz]; omega
  refine wpList_append_own_at (w := w.alloc (.cells #[u] e)) hgd s x t ho base e i z 1 bytes ht hi hz hsize hby hzs (by decide) v n xs hs (hown.alloc _) ⟨w.heap.size, 0, none⟩ 1 1 [u] hx rfl ?_ ?_ hn hbytes hw ?_
  · intro j y hj
    match j, hj with
    | 0, hj =>
      simp at hj; subst hj
      rw [Addr.add_lit]
      exact World.cell?_alloc_mark w #[u] e (0, 0) 0
  · intro y hy; simp at hy; subst hy; exact hu
  · intro v' w' hown' hgrow _ hb
    rcases hown'.2 with ⟨_, h0⟩ | ⟨g, cap, cur, rfl, hg, _⟩
    · omega
    · refine h g cap w' hg hown' ?_ ?_
      · rcases hb with hb | hb
        · exact Or.inl hb.symm
        · right
          have : g = (w.alloc (.cells #[u] e)).heap.size := by injection hb
          rw [this, hsz]; omega
      · have k0 : Keeps (fun j => v.ownBlock = some j) w (w.alloc (.cells #[u] e)) := Keeps.of ((Below.refl w.heap.size w).alloc (Nat.le_refl _) _) (Nat.le_refl _)
        exact k0.trans ⟨hgrow.os, hgrow.tape, hgrow.output, hgrow.size, fun i hi hn => hgrow.block i hi (fun e => hn e.symm)⟩
/-- where TotalsOf stands -/
structure RT (w W : World) (C : Array Value) (ln lp : List Tx) (vn vp : Value) : Prop where
  tb : Blk W (w.heap.size + 1) tRT C
  box : Blk W w.heap.size tRT zeroT
  nm : W.ownsRow (w.heap.size + 2) 9 1 vn ln.length (strsT ln)
  pt : W.ownsRow (w.heap.size + 2) 9 1 vp lp.length (strsT lp)
  ap : ∀ g, vn.ownBlock = some g → vp.ownBlock ≠ some g
  dn : Below w.heap.size w W
theorem RT.drew {w W : World} {C : Array Value} {ln lp : List Tx} {vn vp : Value} (h : RT w W C ln lp vn vp) (n : Nat) : RT w (W.drewN n) C ln lp vn vp :=
  ⟨h.tb, h.box, row_kept h.nm (fun _ _ => rfl), row_kept h.pt (fun _ _ => rfl), h.ap, below_drewN h.dn _⟩
theorem RT.set {w W : World} {C : Array Value} {ln lp : List Tx} {vn vp : Value} (h : RT w W C ln lp vn vp) (i : Nat) (v : Value) : RT w (W.setCell ⟨w.heap.size + 1, i, none⟩ v) (C.setIfInBounds i v) ln lp vn vp :=
  ⟨h.tb.set i v, blk_put (by dsimp only; omega) h.box, ownsRow_setCell_below h.nm (by dsimp only; omega) _, ownsRow_setCell_below h.pt (by dsimp only; omega) _, h.ap, h.dn.setCell (by dsimp only; omega) _⟩
theorem RT.big {w W : World} {C : Array Value} {ln lp : List Tx} {vn vp : Value} (h : RT w W C ln lp vn vp) : w.heap.size + 2 ≤ W.heap.size := h.tb.lt
theorem RT.next {w W W' : World} {C : Array Value} {ln lp : List Tx} {vn vp : Value} (h : RT w W C ln lp vn vp) (hb : Below W.heap.size W W') : RT w W' C ln lp vn vp :=
  ⟨h.tb.below hb h.tb.lt, h.box.below hb h.box.lt, row_kept h.nm (fun g hg => hb.block g (World.ownsRow.lt h.nm g hg).2), row_kept h.pt (fun g hg => hb.block g (World.ownsRow.lt h.pt g hg).2), h.ap, h.dn.trans (hb.mono h.dn.size)⟩
theorem RT.name {w W w7 : World} {C : Array Value} {ln lp : List Tx} {vn vp : Value} {x : Tx} {g7 cap7 n7 : Nat} (h : RT w W C ln lp vn vp) (ho : w7.ownsRow (w.heap.size + 2) 9 1 (.slice (some ⟨g7, 0, none⟩) n7 cap7) n7 (strsT ln ++ [.string (bs x)])) (hn : n7 = ln.length + 1)
    (hk : Keeps (fun j => vn.ownBlock = some j) W w7) {lo : Nat} (hor : vn.ownBlock = some g7 ∨ lo ≤ g7) (hlo : lo = W.heap.size) : RT w w7 C (ln ++ [x]) lp (.slice (some ⟨g7, 0, none⟩) n7 cap7) vp where
  tb := h.tb.keeps hk (fun e => by have := (World.ownsRow.lt h.nm _ e).1; omega)
  box := h.box.keeps hk (fun e => by have := (World.ownsRow.lt h.nm _ e).1; omega)
  nm := by
    rw [List.length_append, List.length_singleton, ← hn]
    unfold strsT at ho ⊢
    rw [List.map_append]; exact ho
  pt := row_kept h.pt (fun g hg => hk.block g (World.ownsRow.lt h.pt g hg).2 (fun e => h.ap g e hg))
  ap := by
    intro g hg e
    have hgg : g = g7 := by injection hg with hg; exact hg.symm
    subst hgg hlo
    rcases hor with h1 | h1
    · exact h.ap _ h1 e
    · have := (World.ownsRow.lt h.pt _ e).2; omega
  dn := h.dn.trans (hk.below (fun i hi e => by have := (World.ownsRow.lt h.nm _ e).1; omega) h.dn.size)
theorem RT.path {w W w7 : World} {C : Array Value} {ln lp : List Tx} {vn vp : Value} {x : Tx} {g7 cap7 n7 : Nat} (h : RT w W C ln lp vn vp) (ho : w7.ownsRow (w.heap.size + 2) 9 1 (.slice (some ⟨g7, 0, none⟩) n7 cap7) n7 (strsT lp ++ [.string (bs x)])) (hn : n7 = lp.length + 1)
    (hk : Keeps (fun j => vp.ownBlock = some j) W w7) {lo : Nat} (hor : vp.ownBlock = some g7 ∨ lo ≤ g7) (hlo : lo = W.heap.size) : RT w w7 C ln (lp ++ [x]) vn (.slice (some ⟨g7, 0, none⟩) n7 cap7) where
  tb := h.tb.keeps hk (fun e => by have := (World.ownsRow.lt h.pt _ e).1; omega)
  box := h.box.keeps hk (fun e => by have := (World.ownsRow.lt h.pt _ e).1; omega)
  pt := by
    rw [List.length_append, List.length_singleton, ← hn]
    unfold strsT at ho ⊢
    rw [List.map_append]; exact ho
  nm := row_kept h.nm (fun g hg => hk.block g (World.ownsRow.lt h.nm g hg).2 (fun e => h.ap g hg e))
  ap := by
    intro g hg e
    have hgg : g = g7 := by injection e with e; exact e.symm
    subst hgg hlo
    rcases hor with h1 | h1
    · exact h.ap _ hg h1
    · have := (World.ownsRow.lt h.nm _ hg).2; omega
  dn := h.dn.trans (hk.below (fun i hi e => by have := (World.ownsRow.lt h.pt _ e).1; omega) h.dn.size)
abbrev RTo (w wr : World) (l acc : List En) (vn vp : Value) : Prop := RT w wr (totC (l.length : Nat) (bytesL acc) (clsL 1 acc) (clsL 2 acc) (clsL 3 acc) (clsL 4 acc) (clsL 5 acc) 0 0) (namesL acc) (pathsL acc) vn vp
theorem names_len (l : List En) : (namesL l).length = l.length := List.length_map _
theorem paths_len (l : List En) : (pathsL l).length = l.length := List.length_map _

set_option maxRecDepth 100000 in
theorem rtotals_any (va : Value) (l : List En) (B : Nat) (w : World) (hA : w.ownsRow B tR 8 va l.length (rowE l)) (hok : ∀ e ∈ l, okE e) (hl : l.length ≤ 1000000) :
    Calls Tryz.prog 28 #[va] w fun e w' => e = .returned (.agg (totL l)) ∧ Below w.heap.size w w' := by
  obtain ⟨i0, hi, hz0, hz1, hz2⟩ := info_parts infoStr
  have ROW := Lib.hid hA
  have HOK := Lib.hid hok
  have hl2 : l.length ≤ 1073741824 := by omega
  have HL := Lib.hid hl
  clear hA hok hl
  obtain ⟨sp, cap, hv2⟩ := row_slice ROW.out
  subst hv2
  go_enter Tryz.func28, Tryz.ntmps28
  go_wp2_with fail
  go_loopw [4, 5, 6] (fun vn vp i wr => ∃ k : Nat, k ≤ l.length ∧ i = .int .i64 k ∧ Hid (RTo w wr l (l.take k) vn vp)) (fun _ _ i _ => l.length - (intOf i).toNat)
  case atStart =>
    refine ⟨0, Nat.zero_le _, rfl, ?_⟩
    have z1 : ∀ (W : World) (o : Obj), (W.alloc o).heap.size = W.heap.size + 1 := fun W o => Array.size_push ..
    have k0 := Blk.new w tRT zeroT
    have k1 := Blk.new (w.alloc (.cells zeroT tRT)) tRT #[.int .i64 (l.length : Nat), .int .i64 0, .int .i64 0, .int .i64 0, .int .i64 0, .int .i64 0, .int .i64 0, .int .i64 0, .int .i64 0]
    rw [z1] at k1
    have k2 := World.ownsRow_lit (base := w.heap.size + 2) (e := 9) (size := 1) ((w.alloc (.cells zeroT tRT)).alloc (.cells #[.int .i64 (l.length : Nat), .int .i64 0, .int .i64 0, .int .i64 0, .int .i64 0, .int .i64 0, .int .i64 0, .int .i64 0, .int .i64 0] tRT)) #[] 0 (by rw [z1, z1]; omega) (by decide) rfl
    have k3 := World.ownsRow_lit (base := w.heap.size + 2) (e := 9) (size := 1) (((w.alloc (.cells zeroT tRT)).alloc (.cells #[.int .i64 (l.length : Nat), .int .i64 0, .int .i64 0, .int .i64 0, .int .i64 0, .int .i64 0, .int .i64 0, .int .i64 0, .int .i64 0] tRT)).alloc (.cells #[] 9)) #[] 0 (by rw [z1, z1, z1]; omega) (by decide) rfl
    rw [z1, z1] at k2
    rw [z1, z1, z1] at k3
    refine ⟨(k1.alloc _).alloc _, ((k0.alloc _).alloc _).alloc _, k2.alloc _, k3, ?_, ((((Below.refl w.heap.size w).alloc (Nat.le_refl _) _).alloc (by rw [z1]; omega) _).alloc (by rw [z1, z1]; omega) _).alloc (by rw [z1, z1, z1]; omega) _⟩
    intro g hg e
    change some (w.heap.size + 1 + 1) = some g at hg
    change some (w.heap.size + 1 + 1 + 1) = some g at e
    injection hg with hg
    injection e with e
    omega
  case round =>
    obtain ⟨k, hk, rfl, hT⟩ := hrel
    obtain ⟨wq, hwq⟩ : ∃ wq, wq = wr := ⟨wr, rfl⟩
    subst hwq
    obtain ⟨sn, cn, hvn⟩ := row_slice hT.out.nm
    obtain ⟨sq, cq, hvp⟩ := row_slice hT.out.pt
    rw [names_len] at hvn
    rw [paths_len] at hvp
    subst hvn hvp
    by_cases hlt : k < l.length
    · have q0 : (0 : Int) ≤ (k : Int) := by omega
      have q1 : (k : Int) < (l.length : Int) := by omega
      obtain ⟨g, rfl⟩ : ∃ g, sp = some ⟨g, 0, none⟩ := by
        rcases ROW.out.2 with ⟨_, h0⟩ | ⟨g, cap', cur, h, _⟩
        · omega
        · injection h with h _ _; exact ⟨g, h⟩
      have HG := Lib.hid (World.ownsRow.lt ROW.out g rfl).2
      have HX := Lib.hid (HOK.out l[k] (List.getElem_mem hlt))
      have ck : ∀ i, i < 8 → wq.cell? ⟨g, k * 8 + i, none⟩ = (cellsE l[k])[i]? := fun i hi => (hT.out.dn.cell (p := ⟨g, k * 8 + i, none⟩) HG.out).trans ((ROW.out.cellAt (k * 8 + i) (by omega)).trans (rowE_get l k i hlt hi))
      have htk : l.take (k + 1) = l.take k ++ [l[k]] := List.take_succ_eq_append_getElem hlt
      have hbd := bytesL_bd (l.take k) (fun e he => (rightE_facts (HOK.out e (List.mem_of_mem_take he)).right).1.2.2.1)
      have hlk : (l.take k).length = k := by rw [List.length_take]; omega
      obtain ⟨e, he⟩ := name_it l[k]
      rw [he.out] at HX ck htk
      clear he
      obtain ⟨acc, hacc⟩ := name_it (l.take k)
      rw [hacc.out] at hT htk hbd hlk ⊢
      have HTK := Lib.hid htk
      have HLK := Lib.hid hlk
      clear hacc htk
      have c0 : wq.cell? ⟨g, k * 8, none⟩ = some (.string (bs e.name)) := ck 0 (by decide)
      have c4 : wq.cell? ⟨g, k * 8 + 4, none⟩ = some (.string (bs e.tgt)) := ck 4 (by decide)
      have C4 : Hid (w.cell? ⟨g, k * 8 + 4, none⟩ = some (.string (bs e.tgt))) := ((hT.out.dn.cell (p := ⟨g, k * 8 + 4, none⟩) HG.out).symm).trans c4
      have c5 : wq.cell? ⟨g, k * 8 + 5, none⟩ = some (.int .i64 e.stat) := ck 5 (by decide)
      have c6 : wq.cell? ⟨g, k * 8 + 6, none⟩ = some (.int .i64 e.byts) := ck 6 (by decide)
      obtain ⟨hn, _, _, _⟩ := rightE_facts HX.out.right
      obtain ⟨_, _, n5, _, n6, n7⟩ := hn
      have hby : e.byts ≤ 9223372036854775807 := HX.out.ints.2.2.2.2.2
      obtain ⟨x4, hx4⟩ := name_it e.stat
      obtain ⟨x5, hx5⟩ := name_it e.byts
      rw [hx4.out] at c5 n6 n7
      rw [hx5.out] at c6 n5 hby
      have tb := hT.out.tb
      have HBS := Lib.hid (bytesL_snoc acc e)
      obtain ⟨Bv, hBv⟩ := name_it (bytesL acc)
      rw [hBv.out] at tb hbd HBS
      rw [hx5.out] at HBS
      have k1 := clsL_le 1 acc
      have k2 := clsL_le 2 acc
      have k3 := clsL_le 3 acc
      have k4 := clsL_le 4 acc
      have k5 := clsL_le 5 acc
      rw [hlk] at k1 k2 k3 k4 k5
      obtain ⟨a1, ha1⟩ := name_it (clsL 1 acc)
      obtain ⟨a2, ha2⟩ := name_it (clsL 2 acc)
      obtain ⟨a3, ha3⟩ := name_it (clsL 3 acc)
      obtain ⟨a4, ha4⟩ := name_it (clsL 4 acc)
      obtain ⟨a5, ha5⟩ := name_it (clsL 5 acc)
      rw [ha1.out, ha2.out, ha3.out, ha4.out, ha5.out] at tb
      rw [ha1.out] at k1
      rw [ha2.out] at k2
      rw [ha3.out] at k3
      rw [ha4.out] at k4
      rw [ha5.out] at k5
      unfold totC at tb
      have t1 : wq.cell? ⟨w.heap.size + 1, 1, none⟩ = some (.int .i64 Bv) := tb.cell 1
      have t2 : wq.cell? ⟨w.heap.size + 1, 2, none⟩ = some (.int .i64 a1) := tb.cell 2
      have t3 : wq.cell? ⟨w.heap.size + 1, 3, none⟩ = some (.int .i64 a2) := tb.cell 3
      have t4 : wq.cell? ⟨w.heap.size + 1, 4, none⟩ = some (.int .i64 a3) := tb.cell 4
      have t5 : wq.cell? ⟨w.heap.size + 1, 5, none⟩ = some (.int .i64 a4) := tb.cell 5
      have t6 : wq.cell? ⟨w.heap.size + 1, 6, none⟩ = some (.int .i64 a5) := tb.cell 6
      have y1 : wq.frozen? ⟨w.heap.size + 1, 1, none⟩ = false := tb.frozen 1
      have y2 : wq.frozen? ⟨w.heap.size + 1, 2, none⟩ = false := tb.frozen 2
      have y3 : wq.frozen? ⟨w.heap.size + 1, 3, none⟩ = false := tb.frozen 3
      have y4 : wq.frozen? ⟨w.heap.size + 1, 4, none⟩ = false := tb.frozen 4
      have y5 : wq.frozen? ⟨w.heap.size + 1, 5, none⟩ = false := tb.frozen 5
      have y6 : wq.frozen? ⟨w.heap.size + 1, 6, none⟩ = false := tb.frozen 6
      have hg1 : ¬ g = w.heap.size + 1 := by have := HG.out; omega
      have hg2 : ¬ w.heap.size + 1 = g := fun h => hg1 h.symm
      have TB := Lib.hid tb
      have R0 : Hid (RT w wq #[.int .i64 (l.length : Nat), .int .i64 Bv, .int .i64 a1, .int .i64 a2, .int .i64 a3, .int .i64 a4, .int .i64 a5, .int .i64 0, .int .i64 0] (namesL acc) (pathsL acc) (.slice sn acc.length cn) (.slice sq acc.length cq)) := ⟨tb, hT.out.box, hT.out.nm, hT.out.pt, hT.out.ap, hT.out.dn⟩
      have G1 := clsL_snoc 1 acc e
      have G2 := clsL_snoc 2 acc e
      have G3 := clsL_snoc 3 acc e
      have G4 := clsL_snoc 4 acc e
      have G5 := clsL_snoc 5 acc e
      rw [hx4.out] at G1 G2 G3 G4 G5
      rw [ha1.out] at G1
      rw [ha2.out] at G2
      rw [ha3.out] at G3
      rw [ha4.out] at G4
      rw [ha5.out] at G5
      replace G1 := Lib.hid G1
      replace G2 := Lib.hid G2
      replace G3 := Lib.hid G3
      replace G4 := Lib.hid G4
      replace G5 := Lib.hid G5
      clear tb ck hlk
      rcases (show x4 / 100 = 1 ∨ x4 / 100 = 2 ∨ x4 / 100 = 3 ∨ x4 / 100 = 4 ∨ x4 / 100 = 5 by omega) with hq | hq | hq | hq | hq
      all_goals
        have HQ := Lib.hid hq
        by_cases hbig : 9223372036854775807 - Bv < x5
        ·
          have HBIG : Hid ((if 9223372036854775807 - Bv < x5 then (9223372036854775807 : Int) else Bv + x5) = 9223372036854775807) := if_pos hbig
          go_wp2_with fail
          go_quiet (fail)
          go_wp2_with (at_builtin; (refine append1k rfl _ _ 43 rfl (w.heap.size + 2) 9 i0 (.string ⟨#[]⟩) 16 Tryz.underlying43 hi hz0 hz1 hz2 rfl (RT.nm (((R0.out.drew _).set _ _).set _ _)) rfl (.string (bs e.name)) rfl rfl (by first | rfl | (simp; done) | (simp [World.drewN]; done)) (by have := HLK.out; rw [names_len]; unfold maxLen; omega) (by have := HLK.out; rw [names_len]; omega) (RT.big (((R0.out.drew _).set _ _).set _ _)) ?_))
          intro g7 cap7 w7 hg7 hown7 hor7 hk7
          have R7 := Lib.hid (RT.name (((R0.out.drew _).set _ _).set _ _) hown7 rfl hk7 hor7 (by first | rfl | (simp; done)))
          have e4 : w7.cell? ⟨g, k * 8 + 4, none⟩ = some (.string (bs e.tgt)) := (R7.out.dn.cell (p := ⟨g, k * 8 + 4, none⟩) HG.out).trans C4.out
          clear hown7 hor7 hk7 hg7
          have tl := rpath_any (bs e.tgt) w7 (by rw [size_bs]; have := HX.out.n3; omega)
          rw [L_bs] at tl
          have TL := Lib.hid tl
          clear tl
          go_wp2_with fail
          refine TL.out.mono ?_; rintro x w8 ⟨rfl, rfl⟩
          clear TL
          go_wp2_with (at_builtin; (refine append1k rfl _ _ 43 rfl (w.heap.size + 2) 9 i0 (.string ⟨#[]⟩) 16 Tryz.underlying43 hi hz0 hz1 hz2 rfl (RT.pt R7.out) rfl (.string (bs (pathL e.tgt))) rfl rfl (by first | rfl | (simp; done)) (by have := HLK.out; rw [paths_len]; unfold maxLen; omega) (by have := HLK.out; rw [paths_len]; omega) (RT.big R7.out) ?_))
          intro g9 cap9 w9 hg9 hown9 hor9 hk9
          have R9 := Lib.hid (RT.path R7.out hown9 rfl hk9 hor9 (by first | rfl | (simp; done)))
          clear hown9 hor9 hk9 hg9
          go_wp2_with fail
          go_roundw
          case rel =>
            refine ⟨k + 1, by omega, by go_num, ?_⟩
            have g1 := G1.out
            have g2 := G2.out
            have g3 := G3.out
            have g4 := G4.out
            have g5 := G5.out
            rw [HQ.out] at g1 g2 g3 g4 g5
            simp at g1 g2 g3 g4 g5
            rw [HTK.out]
            unfold Hid
            have r9 := R9.out
            rw [show namesL acc ++ [e.name] = namesL (acc ++ [e]) from by unfold namesL; rw [List.map_append]; rfl, show pathsL acc ++ [pathL e.tgt] = pathsL (acc ++ [e]) from by unfold pathsL; rw [List.map_append]; rfl] at r9
            unfold RTo
            rw [g1, g2, g3, g4, g5, HBS.out, HBIG.out]
            exact r9
          case measure => simp [intOf]; omega
        ·
          have HBIG : Hid ((if 9223372036854775807 - Bv < x5 then (9223372036854775807 : Int) else Bv + x5) = Bv + x5) := if_neg hbig
          go_wp2_with fail
          go_quiet (fail)
          go_wp2_with fail
          go_region
          go_wp2_with (at_builtin; (refine append1k rfl _ _ 43 rfl (w.heap.size + 2) 9 i0 (.string ⟨#[]⟩) 16 Tryz.underlying43 hi hz0 hz1 hz2 rfl (RT.nm (((R0.out.drew _).set _ _).set _ _)) rfl (.string (bs e.name)) rfl rfl (by first | rfl | (simp; done) | (simp [World.drewN]; done)) (by have := HLK.out; rw [names_len]; unfold maxLen; omega) (by have := HLK.out; rw [names_len]; omega) (RT.big (((R0.out.drew _).set _ _).set _ _)) ?_))
          intro g7 cap7 w7 hg7 hown7 hor7 hk7
          have R7 := Lib.hid (RT.name (((R0.out.drew _).set _ _).set _ _) hown7 rfl hk7 hor7 (by first | rfl | (simp; done)))
          have e4 : w7.cell? ⟨g, k * 8 + 4, none⟩ = some (.string (bs e.tgt)) := (R7.out.dn.cell (p := ⟨g, k * 8 + 4, none⟩) HG.out).trans C4.out
          clear hown7 hor7 hk7 hg7
          have tl := rpath_any (bs e.tgt) w7 (by rw [size_bs]; have := HX.out.n3; omega)
          rw [L_bs] at tl
          have TL := Lib.hid tl
          clear tl
          go_wp2_with fail
          refine TL.out.mono ?_; rintro x w8 ⟨rfl, rfl⟩
          clear TL
          go_wp2_with (at_builtin; (refine append1k rfl _ _ 43 rfl (w.heap.size + 2) 9 i0 (.string ⟨#[]⟩) 16 Tryz.underlying43 hi hz0 hz1 hz2 rfl (RT.pt R7.out) rfl (.string (bs (pathL e.tgt))) rfl rfl (by first | rfl | (simp; done)) (by have := HLK.out; rw [paths_len]; unfold maxLen; omega) (by have := HLK.out; rw [paths_len]; omega) (RT.big R7.out) ?_))
          intro g9 cap9 w9 hg9 hown9 hor9 hk9
          have R9 := Lib.hid (RT.path R7.out hown9 rfl hk9 hor9 (by first | rfl | (simp; done)))
          clear hown9 hor9 hk9 hg9
          go_wp2_with fail
          go_roundw
          case rel =>
            refine ⟨k + 1, by omega, by go_num, ?_⟩
            have g1 := G1.out
            have g2 := G2.out
            have g3 := G3.out
            have g4 := G4.out
            have g5 := G5.out
            rw [HQ.out] at g1 g2 g3 g4 g5
            simp at g1 g2 g3 g4 g5
            rw [HTK.out]
            unfold Hid
            have r9 := R9.out
            rw [show namesL acc ++ [e.name] = namesL (acc ++ [e]) from by unfold namesL; rw [List.map_append]; rfl, show pathsL acc ++ [pathL e.tgt] = pathsL (acc ++ [e]) from by unfold pathsL; rw [List.map_append]; rfl] at r9
            unfold RTo
            rw [g1, g2, g3, g4, g5, HBS.out, HBIG.out]
            exact r9
          case measure => simp [intOf]; omega
    · have hkl : k = l.length := by omega
      subst hkl
      rw [List.take_length] at hT ⊢
      have CN := Lib.hid (count_any _ (namesL l) _ wq hT.out.nm (by rw [names_len]; exact hl2))
      have CP := Lib.hid (fun W (h : Below wq.heap.size wq W) => count_any _ (pathsL l) _ W (RT.next hT.out h).pt (by rw [paths_len]; exact hl2))
      go_wp2_with fail
      refine CN.out.mono ?_; rintro x w3 ⟨⟨v3, rfl, ho3⟩, b3⟩
      obtain ⟨s3, k3, hv3⟩ := row_slice ho3
      subst hv3
      have B3 := Lib.hid b3
      have R3 := Lib.hid (RT.next hT.out b3)
      clear ho3 b3
      go_wp2_with fail
      refine (CP.out w3 B3.out).mono ?_; rintro x w4 ⟨⟨v4, rfl, ho4⟩, b4⟩
      obtain ⟨s4, k4, hv4⟩ := row_slice ho4
      subst hv4
      have R4 := Lib.hid (RT.next R3.out b4)
      clear ho4 b4 R3 B3 CN CP hT
      have tb := R4.out.tb
      have bx := R4.out.box
      obtain ⟨Bv, hBv⟩ := name_it (bytesL l)
      obtain ⟨a1, ha1⟩ := name_it (clsL 1 l)
      obtain ⟨a2, ha2⟩ := name_it (clsL 2 l)
      obtain ⟨a3, ha3⟩ := name_it (clsL 3 l)
      obtain ⟨a4, ha4⟩ := name_it (clsL 4 l)
      obtain ⟨a5, ha5⟩ := name_it (clsL 5 l)
      rw [hBv.out, ha1.out, ha2.out, ha3.out, ha4.out, ha5.out] at tb
      unfold totC at tb
      have hnn : ¬ w.heap.size = w.heap.size + 1 := by omega
      have t0 : w4.cell? ⟨w.heap.size + 1, 0, none⟩ = some (.int .i64 (l.length : Nat)) := tb.cell 0
      have y0 : w4.frozen? ⟨w.heap.size + 1, 0, none⟩ = false := tb.frozen 0
      have b0 : w4.cell? ⟨w.heap.size, 0, none⟩ = some (.int .i64 0) := bx.cell 0
      have f0 : w4.frozen? ⟨w.heap.size, 0, none⟩ = false := bx.frozen 0
      have t1 : w4.cell? ⟨w.heap.size + 1, 1, none⟩ = some (.int .i64 Bv) := tb.cell 1
      have y1 : w4.frozen? ⟨w.heap.size + 1, 1, none⟩ = false := tb.frozen 1
      have b1 : w4.cell? ⟨w.heap.size, 1, none⟩ = some (.int .i64 0) := bx.cell 1
      have f1 : w4.frozen? ⟨w.heap.size, 1, none⟩ = false := bx.frozen 1
      have t2 : w4.cell? ⟨w.heap.size + 1, 2, none⟩ = some (.int .i64 a1) := tb.cell 2
      have y2 : w4.frozen? ⟨w.heap.size + 1, 2, none⟩ = false := tb.frozen 2
      have b2 : w4.cell? ⟨w.heap.size, 2, none⟩ = some (.int .i64 0) := bx.cell 2
      have f2 : w4.frozen? ⟨w.heap.size, 2, none⟩ = false := bx.frozen 2
      have t3 : w4.cell? ⟨w.heap.size + 1, 3, none⟩ = some (.int .i64 a2) := tb.cell 3
      have y3 : w4.frozen? ⟨w.heap.size + 1, 3, none⟩ = false := tb.frozen 3
      have b3 : w4.cell? ⟨w.heap.size, 3, none⟩ = some (.int .i64 0) := bx.cell 3
      have f3 : w4.frozen? ⟨w.heap.size, 3, none⟩ = false := bx.frozen 3
      have t4 : w4.cell? ⟨w.heap.size + 1, 4, none⟩ = some (.int .i64 a3) := tb.cell 4
      have y4 : w4.frozen? ⟨w.heap.size + 1, 4, none⟩ = false := tb.frozen 4
      have b4 : w4.cell? ⟨w.heap.size, 4, none⟩ = some (.int .i64 0) := bx.cell 4
      have f4 : w4.frozen? ⟨w.heap.size, 4, none⟩ = false := bx.frozen 4
      have t5 : w4.cell? ⟨w.heap.size + 1, 5, none⟩ = some (.int .i64 a4) := tb.cell 5
      have y5 : w4.frozen? ⟨w.heap.size + 1, 5, none⟩ = false := tb.frozen 5
      have b5 : w4.cell? ⟨w.heap.size, 5, none⟩ = some (.int .i64 0) := bx.cell 5
      have f5 : w4.frozen? ⟨w.heap.size, 5, none⟩ = false := bx.frozen 5
      have t6 : w4.cell? ⟨w.heap.size + 1, 6, none⟩ = some (.int .i64 a5) := tb.cell 6
      have y6 : w4.frozen? ⟨w.heap.size + 1, 6, none⟩ = false := tb.frozen 6
      have b6 : w4.cell? ⟨w.heap.size, 6, none⟩ = some (.int .i64 0) := bx.cell 6
      have f6 : w4.frozen? ⟨w.heap.size, 6, none⟩ = false := bx.frozen 6
      have t7 : w4.cell? ⟨w.heap.size + 1, 7, none⟩ = some (.int .i64 0) := tb.cell 7
      have y7 : w4.frozen? ⟨w.heap.size + 1, 7, none⟩ = false := tb.frozen 7
      have b7 : w4.cell? ⟨w.heap.size, 7, none⟩ = some (.int .i64 0) := bx.cell 7
      have f7 : w4.frozen? ⟨w.heap.size, 7, none⟩ = false := bx.frozen 7
      have t8 : w4.cell? ⟨w.heap.size + 1, 8, none⟩ = some (.int .i64 0) := tb.cell 8
      have y8 : w4.frozen? ⟨w.heap.size + 1, 8, none⟩ = false := tb.frozen 8
      have b8 : w4.cell? ⟨w.heap.size, 8, none⟩ = some (.int .i64 0) := bx.cell 8
      have f8 : w4.frozen? ⟨w.heap.size, 8, none⟩ = false := bx.frozen 8
      have BG := Blk.set (Blk.set (Blk.set (Blk.set (Blk.set (Blk.set (Blk.set (Blk.set (Blk.set (blk_put (a := ⟨w.heap.size + 1, 8, none⟩) (v := .int .i64 ((cntF (pathsL l)).length : Nat)) (by dsimp only; omega) (blk_put (a := ⟨w.heap.size + 1, 7, none⟩) (v := .int .i64 ((cntF (namesL l)).length : Nat)) (by dsimp only; omega) bx)) 0 (.int .i64 (l.length : Nat))) 1 (.int .i64 Bv)) 2 (.int .i64 a1)) 3 (.int .i64 a2)) 4 (.int .i64 a3)) 5 (.int .i64 a4)) 6 (.int .i64 a5)) 7 (.int .i64 ((cntF (namesL l)).length : Nat))) 8 (.int .i64 ((cntF (pathsL l)).length : Nat))
      have BF : Hid (Blk _ w.heap.size tRT (totC (l.length : Nat) Bv a1 a2 a3 a4 a5 ((cntF (namesL l)).length : Nat) ((cntF (pathsL l)).length : Nat))) := BG
      clear tb bx BG
      go_wp2_with fail
      refine bodyPost_ret (v := .agg (totL l)) ?_ rfl ⟨rfl, ?_⟩
      · clear t0 t1 t2 t3 t4 t5 t6 t7 t8 y0 y1 y2 y3 y4 y5 y6 y7 y8 b0 b1 b2 b3 b4 b5 b6 b7 b8 f0 f1 f2 f3 f4 f5 f6 f7 f8
        generalize World.setCell _ _ _ = W9 at BF ⊢
        have r0 : W9.cell? ⟨w.heap.size, 0, none⟩ = some (.int .i64 (l.length : Nat)) := BF.out.cell 0
        have r1 : W9.cell? ⟨w.heap.size, 1, none⟩ = some (.int .i64 Bv) := BF.out.cell 1
        have r2 : W9.cell? ⟨w.heap.size, 2, none⟩ = some (.int .i64 a1) := BF.out.cell 2
        have r3 : W9.cell? ⟨w.heap.size, 3, none⟩ = some (.int .i64 a2) := BF.out.cell 3
        have r4 : W9.cell? ⟨w.heap.size, 4, none⟩ = some (.int .i64 a3) := BF.out.cell 4
        have r5 : W9.cell? ⟨w.heap.size, 5, none⟩ = some (.int .i64 a4) := BF.out.cell 5
        have r6 : W9.cell? ⟨w.heap.size, 6, none⟩ = some (.int .i64 a5) := BF.out.cell 6
        have r7 : W9.cell? ⟨w.heap.size, 7, none⟩ = some (.int .i64 ((cntF (namesL l)).length : Nat)) := BF.out.cell 7
        have r8 : W9.cell? ⟨w.heap.size, 8, none⟩ = some (.int .i64 ((cntF (pathsL l)).length : Nat)) := BF.out.cell 8
        simp [results, Tryz.results28, go_sem, totL, totC, hBv.out, ha1.out, ha2.out, ha3.out, ha4.out, ha5.out, r0, r1, r2, r3, r4, r5, r6, r7, r8]
      · repeat (refine Below.setCell ?_ (by dsimp only; omega) _)
        exact R4.out.dn
end Go.Proofs.YtfgaiopkclogmaaGreatDoor
