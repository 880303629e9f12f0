/- Books of ledger: whatever tells entries (a book, a nil one): one of its entries. -/
import Derived.Test.YtfgaiopkclogmaaGreatDoorMf
import Derived.Test.YtfgaiopkclogmaaGreatDoorLedgWJ
namespace Go.Proofs.YtfgaiopkclogmaaGreatDoor
open Go Go.RowKit Go.MuLone
set_option maxHeartbeats 4000000

/-- from this world on a receiver tells these entries -/
def Ent (pv : Value) (l : List En) (w : World) : Prop := ∀ W, Below w.heap.size w W → Calls Tryz.prog 35 #[pv] W fun e w' => (∃ v2, e = .returned v2 ∧ w'.ownsRow W.heap.size tE 8 v2 l.length (rowE l)) ∧ Below W.heap.size W w'
theorem Ent.next {pv : Value} {l : List En} {w w' : World} (h : Ent pv l w) (hb : Below w.heap.size w w') : Ent pv l w' := fun W hW => h W (hb.trans (hW.mono hb.size))
theorem ent_book {b : Nat} {v : Value} {l : List En} {w : World} (h : Bok w b v l) : Ent (.pointer (some ⟨b, 0, none⟩)) l w := fun W hW => entries_any b v l W (h.next hW)
theorem ent_nil (w : World) : Ent (.pointer none) [] w := by
  intro W _
  go_enter_defers Tryz.func35, Tryz.ntmps35
  go_wp2_with fail
  exact ⟨_, results_tmp rfl _ _ _, ⟨_, rfl, World.ownsRow_nil ..⟩, Below.refl _ _⟩
def entV (l : List En) (i : Int) : Value := if h : 0 ≤ i ∧ i < l.length then .tuple #[encE (l[i.toNat]'(by omega)), .bool true] else .tuple #[noS, .bool false]
theorem entV_no {l : List En} {i : Int} (h : ¬ (0 ≤ i ∧ i < l.length)) : entV l i = .tuple #[noS, .bool false] := by unfold entV; rw [dif_neg h]
theorem entV_yes {l : List En} {k : Nat} (h : k < l.length) : entV l (k : Nat) = .tuple #[encE l[k], .bool true] := by
  unfold entV
  rw [dif_pos ⟨by omega, by omega⟩]
  simp
theorem box8W {W : World} {n : Nat} {C : Array Value} {T : TypeId} (hC : ∃ c0 c1 c2 c3 c4 c5 c6 c7, C = #[c0, c1, c2, c3, c4, c5, c6, c7]) (h : Blk W n T C) (v0 v1 v2 v3 v4 v5 v6 v7 : Value) :
    Blk ((((((((W.setCell ⟨n, 0, none⟩ v0).setCell ⟨n, 1, none⟩ v1).setCell ⟨n, 2, none⟩ v2).setCell ⟨n, 3, none⟩ v3).setCell ⟨n, 4, none⟩ v4).setCell ⟨n, 5, none⟩ v5).setCell ⟨n, 6, none⟩ v6).setCell ⟨n, 7, none⟩ v7) n T #[v0, v1, v2, v3, v4, v5, v6, v7] ∧
    Below n W ((((((((W.setCell ⟨n, 0, none⟩ v0).setCell ⟨n, 1, none⟩ v1).setCell ⟨n, 2, none⟩ v2).setCell ⟨n, 3, none⟩ v3).setCell ⟨n, 4, none⟩ v4).setCell ⟨n, 5, none⟩ v5).setCell ⟨n, 6, none⟩ v6).setCell ⟨n, 7, none⟩ v7) := by
  obtain ⟨c0, c1, c2, c3, c4, c5, c6, c7, rfl⟩ := hC
  refine ⟨(((((((h.set 0 v0).set 1 v1).set 2 v2).set 3 v3).set 4 v4).set 5 v5).set 6 v6).set 7 v7, ?_⟩
  exact ((((((((Below.refl n W).setCell (p := ⟨n, 0, none⟩) (Nat.le_refl _) v0).setCell (p := ⟨n, 1, none⟩) (Nat.le_refl _) v1).setCell (p := ⟨n, 2, none⟩) (Nat.le_refl _) v2).setCell (p := ⟨n, 3, none⟩) (Nat.le_refl _) v3).setCell (p := ⟨n, 4, none⟩) (Nat.le_refl _) v4).setCell (p := ⟨n, 5, none⟩) (Nat.le_refl _) v5).setCell (p := ⟨n, 6, none⟩) (Nat.le_refl _) v6).setCell (p := ⟨n, 7, none⟩) (Nat.le_refl _) v7

set_option maxRecDepth 100000 in
theorem entry_ent (pv : Value) (l : List En) (i : Int) (w : World) (hE : Ent pv l w) (_hl : l.length ≤ 1073741824) :
    Calls Tryz.prog 26 #[pv, .int .i64 i] w fun e w' => e = .returned (entV l i) ∧ Below w.heap.size w w' := by
  have B0 := Lib.hid ((Below.refl w.heap.size w).alloc (Nat.le_refl _) (.cells #[.string ⟨#[]⟩, .int .i64 0, .int .i64 0, .string ⟨#[]⟩, .string ⟨#[]⟩, .int .i64 0, .int .i64 0, .int .i64 0] tE))
  have K0 : Hid (Blk (w.alloc (.cells #[.string ⟨#[]⟩, .int .i64 0, .int .i64 0, .string ⟨#[]⟩, .string ⟨#[]⟩, .int .i64 0, .int .i64 0, .int .i64 0] tE)) w.heap.size tE #[.string ⟨#[]⟩, .int .i64 0, .int .i64 0, .string ⟨#[]⟩, .string ⟨#[]⟩, .int .i64 0, .int .i64 0, .int .i64 0]) := Blk.new w tE _
  have HE := Lib.hid (hE _ B0.out)
  clear hE
  obtain ⟨V, hV⟩ := name_it (entV l i)
  rw [hV.out]
  go_enter Tryz.func26, Tryz.ntmps26
  go_wp2_with fail
  refine HE.out.mono ?_; rintro x w2 ⟨⟨v2, rfl, hown⟩, b2⟩
  have ROW := Lib.hid hown
  have K2 := Lib.hid (K0.out.below b2 K0.out.lt)
  have B2 := Lib.hid (B0.out.trans (b2.mono B0.out.size))
  clear hown b2 HE K0 B0
  obtain ⟨sp, cap, hv2⟩ := row_slice ROW.out
  subst hv2
  have z0 : w2.cell? ⟨w.heap.size, 0, none⟩ = some (.string ⟨#[]⟩) := K2.out.cell 0
  have z1 : w2.cell? ⟨w.heap.size, 1, none⟩ = some (.int .i64 0) := K2.out.cell 1
  have z2 : w2.cell? ⟨w.heap.size, 2, none⟩ = some (.int .i64 0) := K2.out.cell 2
  have z3 : w2.cell? ⟨w.heap.size, 3, none⟩ = some (.string ⟨#[]⟩) := K2.out.cell 3
  have z4 : w2.cell? ⟨w.heap.size, 4, none⟩ = some (.string ⟨#[]⟩) := K2.out.cell 4
  have z5 : w2.cell? ⟨w.heap.size, 5, none⟩ = some (.int .i64 0) := K2.out.cell 5
  have z6 : w2.cell? ⟨w.heap.size, 6, none⟩ = some (.int .i64 0) := K2.out.cell 6
  have z7 : w2.cell? ⟨w.heap.size, 7, none⟩ = some (.int .i64 0) := K2.out.cell 7
  have y0 : w2.frozen? ⟨w.heap.size, 0, none⟩ = false := K2.out.frozen 0
  have y1 : w2.frozen? ⟨w.heap.size, 1, none⟩ = false := K2.out.frozen 1
  have y2 : w2.frozen? ⟨w.heap.size, 2, none⟩ = false := K2.out.frozen 2
  have y3 : w2.frozen? ⟨w.heap.size, 3, none⟩ = false := K2.out.frozen 3
  have y4 : w2.frozen? ⟨w.heap.size, 4, none⟩ = false := K2.out.frozen 4
  have y5 : w2.frozen? ⟨w.heap.size, 5, none⟩ = false := K2.out.frozen 5
  have y6 : w2.frozen? ⟨w.heap.size, 6, none⟩ = false := K2.out.frozen 6
  have y7 : w2.frozen? ⟨w.heap.size, 7, none⟩ = false := K2.out.frozen 7
  by_cases h : 0 ≤ i ∧ i < l.length
  · obtain ⟨k, rfl⟩ : ∃ k : Nat, i = k := ⟨i.toNat, by omega⟩
    have hk : k < l.length := by omega
    rw [entV_yes hk] at hV
    have q0 : (0 : Int) ≤ (k : Int) := h.1
    have q1 : (k : Int) < (l.length : Int) := h.2
    have ck : ∀ g, sp = some ⟨g, 0, none⟩ → ∀ i, i < 8 → w2.cell? ⟨g, k * 8 + i, none⟩ = (cellsE l[k])[i]? := by
      intro g hg i hi
      subst hg
      exact (ROW.out.cellAt (k * 8 + i) (by omega)).trans (rowE_get l k i hk hi)
    obtain ⟨g, rfl⟩ : ∃ g, sp = some ⟨g, 0, none⟩ := by
      rcases ROW.out.2 with ⟨_, h0⟩ | ⟨g, cap', cur, h, _⟩
      · omega
      · injection h with h _ _; exact ⟨g, h⟩
    have ck2 := ck g rfl
    obtain ⟨e, he⟩ := name_it l[k]
    rw [he.out] at ck2 hV
    clear he ck h
    have c0 : w2.cell? ⟨g, k * 8, none⟩ = some (.string (bs e.name)) := ck2 0 (by decide)
    have c1 : w2.cell? ⟨g, k * 8 + 1, none⟩ = some (.int .i64 e.conn) := ck2 1 (by decide)
    have c2 : w2.cell? ⟨g, k * 8 + 2, none⟩ = some (.int .i64 e.numb) := ck2 2 (by decide)
    have c3 : w2.cell? ⟨g, k * 8 + 3, none⟩ = some (.string (bs e.meth)) := ck2 3 (by decide)
    have c4 : w2.cell? ⟨g, k * 8 + 4, none⟩ = some (.string (bs e.tgt)) := ck2 4 (by decide)
    have c5 : w2.cell? ⟨g, k * 8 + 5, none⟩ = some (.int .i64 e.stat) := ck2 5 (by decide)
    have c6 : w2.cell? ⟨g, k * 8 + 6, none⟩ = some (.int .i64 e.byts) := ck2 6 (by decide)
    have c7 : w2.cell? ⟨g, k * 8 + 7, none⟩ = some (.int .i64 e.tick) := ck2 7 (by decide)
    clear ck2
    go_wp2_with fail
    all_goals (try (exfalso; omega))
    obtain ⟨K9, B9⟩ := box8W ⟨_, _, _, _, _, _, _, _, rfl⟩ K2.out (.string (bs e.name)) (.int .i64 e.conn) (.int .i64 e.numb) (.string (bs e.meth)) (.string (bs e.tgt)) (.int .i64 e.stat) (.int .i64 e.byts) (.int .i64 e.tick)
    have D9 := B2.out.trans B9
    obtain ⟨w9, hw9⟩ := name_it ((((((((w2.setCell ⟨w.heap.size, 0, none⟩ (.string (bs e.name))).setCell ⟨w.heap.size, 1, none⟩ (.int .i64 e.conn)).setCell ⟨w.heap.size, 2, none⟩ (.int .i64 e.numb)).setCell ⟨w.heap.size, 3, none⟩ (.string (bs e.meth))).setCell ⟨w.heap.size, 4, none⟩ (.string (bs e.tgt))).setCell ⟨w.heap.size, 5, none⟩ (.int .i64 e.stat)).setCell ⟨w.heap.size, 6, none⟩ (.int .i64 e.byts)).setCell ⟨w.heap.size, 7, none⟩ (.int .i64 e.tick))
    rw [hw9.out] at K9 D9
    rw [hw9.out]
    clear B9 c0 c1 c2 c3 c4 c5 c6 c7 z0 z1 z2 z3 z4 z5 z6 z7 y0 y1 y2 y3 y4 y5 y6 y7
    have f0 : w9.cell? ⟨w.heap.size, 0, none⟩ = some (.string (bs e.name)) := K9.cell 0
    have f1 : w9.cell? ⟨w.heap.size, 1, none⟩ = some (.int .i64 e.conn) := K9.cell 1
    have f2 : w9.cell? ⟨w.heap.size, 2, none⟩ = some (.int .i64 e.numb) := K9.cell 2
    have f3 : w9.cell? ⟨w.heap.size, 3, none⟩ = some (.string (bs e.meth)) := K9.cell 3
    have f4 : w9.cell? ⟨w.heap.size, 4, none⟩ = some (.string (bs e.tgt)) := K9.cell 4
    have f5 : w9.cell? ⟨w.heap.size, 5, none⟩ = some (.int .i64 e.stat) := K9.cell 5
    have f6 : w9.cell? ⟨w.heap.size, 6, none⟩ = some (.int .i64 e.byts) := K9.cell 6
    have f7 : w9.cell? ⟨w.heap.size, 7, none⟩ = some (.int .i64 e.tick) := K9.cell 7
    refine bodyPost_ret (v := .tuple #[encE e, .bool true]) (by simp [results, Tryz.results26, go_sem, encE, f0, f1, f2, f3, f4, f5, f6, f7]) rfl ?_
    exact ⟨by rw [hV.out], D9⟩
  · rw [entV_no h] at hV
    have hi : i < 0 ∨ (0 ≤ i ∧ (l.length : Int) ≤ i) := by omega
    clear h
    rcases hi with h | ⟨h, h'⟩
    all_goals
      go_wp2_with fail
      all_goals (try (exfalso; omega))
      obtain ⟨K9, B9⟩ := box8W ⟨_, _, _, _, _, _, _, _, rfl⟩ K2.out (.string ⟨#[]⟩) (.int .i64 0) (.int .i64 0) (.string ⟨#[]⟩) (.string ⟨#[]⟩) (.int .i64 0) (.int .i64 0) (.int .i64 0)
      have D9 := B2.out.trans B9
      obtain ⟨w9, hw9⟩ := name_it ((((((((w2.setCell ⟨w.heap.size, 0, none⟩ (.string ⟨#[]⟩)).setCell ⟨w.heap.size, 1, none⟩ (.int .i64 0)).setCell ⟨w.heap.size, 2, none⟩ (.int .i64 0)).setCell ⟨w.heap.size, 3, none⟩ (.string ⟨#[]⟩)).setCell ⟨w.heap.size, 4, none⟩ (.string ⟨#[]⟩)).setCell ⟨w.heap.size, 5, none⟩ (.int .i64 0)).setCell ⟨w.heap.size, 6, none⟩ (.int .i64 0)).setCell ⟨w.heap.size, 7, none⟩ (.int .i64 0))
      rw [hw9.out] at K9 D9
      rw [hw9.out]
      clear B9 z0 z1 z2 z3 z4 z5 z6 z7 y0 y1 y2 y3 y4 y5 y6 y7
      have f0 : w9.cell? ⟨w.heap.size, 0, none⟩ = some (.string ⟨#[]⟩) := K9.cell 0
      have f1 : w9.cell? ⟨w.heap.size, 1, none⟩ = some (.int .i64 0) := K9.cell 1
      have f2 : w9.cell? ⟨w.heap.size, 2, none⟩ = some (.int .i64 0) := K9.cell 2
      have f3 : w9.cell? ⟨w.heap.size, 3, none⟩ = some (.string ⟨#[]⟩) := K9.cell 3
      have f4 : w9.cell? ⟨w.heap.size, 4, none⟩ = some (.string ⟨#[]⟩) := K9.cell 4
      have f5 : w9.cell? ⟨w.heap.size, 5, none⟩ = some (.int .i64 0) := K9.cell 5
      have f6 : w9.cell? ⟨w.heap.size, 6, none⟩ = some (.int .i64 0) := K9.cell 6
      have f7 : w9.cell? ⟨w.heap.size, 7, none⟩ = some (.int .i64 0) := K9.cell 7
      refine bodyPost_ret (v := .tuple #[noS, .bool false]) (by simp [results, Tryz.results26, go_sem, noS, f0, f1, f2, f3, f4, f5, f6, f7]) rfl ?_
      exact ⟨by rw [hV.out], D9⟩
end Go.Proofs.YtfgaiopkclogmaaGreatDoor
