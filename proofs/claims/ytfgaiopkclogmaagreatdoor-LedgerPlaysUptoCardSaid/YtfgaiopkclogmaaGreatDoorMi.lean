/- The document's Add. Adding an entry, right or not: the book's Add and the document's; what holds of two books side by side. -/
import Derived.Test.YtfgaiopkclogmaaGreatDoorMh
import Derived.BigRegion
import Derived.Test.YtfgaiopkclogmaaGreatDoorLedgDcJ
namespace Go.Proofs.YtfgaiopkclogmaaGreatDoor
open Go Go.RowKit Go.MuLone
set_option maxHeartbeats 8000000

set_option maxRecDepth 100000 in
theorem radd_no (va : Value) (e : En) (w : World) (hr : rightE e = false) (h1 : e.name.length ≤ 1048576) (h2 : e.meth.length ≤ 1048576) (h3 : e.tgt.length ≤ 1048576) :
    Calls Tryz.prog 12 #[va, encE e] w fun x w' => x = .returned (.tuple #[va, .int .i64 280]) ∧ Below w.heap.size w w' := by
  have NR := Lib.hid (fun wx => rright_any e wx (by omega) (by omega) (by omega))
  rw [hr] at NR
  have b0 := Lib.hid ((Below.refl w.heap.size w).alloc (Nat.le_refl _) (.cells (cellsE e) tR))
  clear hr h1 h2 h3
  unfold encE at NR ⊢
  unfold cellsE at b0
  go_enter Tryz.func12, Tryz.ntmps12
  go_wp2_with fail
  refine (NR.out _).mono ?_; rintro x wa ⟨rfl, ba⟩
  have d1 := Lib.hid (b0.out.trans (ba.mono b0.out.size))
  go_wp2_with fail
  exact bodyPost_ret (v := .tuple #[va, .int .i64 280]) (by simp [results, Tryz.results12, go_sem]) rfl ⟨rfl, d1.out⟩

theorem infoREn : (Tryz.prog.info? tR).map (fun i => (i.zero, i.size, i.bytes)) = some (some (.agg #[.string ⟨#[]⟩, .int .i64 0, .int .i64 0, .string ⟨#[]⟩, .string ⟨#[]⟩, .int .i64 0, .int .i64 0, .int .i64 0]), 8, 88) := by kernel_rfl
/-- where the document's Add stands: the entry in its box, what was there -/
structure RA (w W : World) (e : En) : Prop where
  below : Below w.heap.size w W
  blk : Blk W w.heap.size tR (cellsE e)
theorem RA.size {w W : World} {e : En} (h : RA w W e) : w.heap.size + 1 ≤ W.heap.size := h.blk.lt
theorem RA.drew {w W : World} {e : En} (h : RA w W e) : RA w W.drew e := ⟨h.below.drew, h.blk⟩
theorem RA.alloc {w W : World} {e : En} (h : RA w W e) (o : Obj) : RA w (W.alloc o) e := ⟨h.below.alloc h.below.size o, h.blk.alloc o⟩
theorem RA.grown {w W W' : World} {e : En} {b : Nat} (h : RA w W e) (hg : W.grownBy W' (some b)) (hb : w.heap.size < b) : RA w W' e where
  below := h.below.trans ⟨hg.os, hg.tape, hg.output, hg.size, fun i hi => hg.block i (by have := h.size; omega) (by intro e; injection e with e; omega)⟩
  blk := (hg.block _ h.blk.lt (by intro e; injection e with e; omega)).trans h.blk
theorem new_grown {W W' : World} {o : Obj} {b : Nat} (hg : (W.alloc o).grownBy W' (some b)) (hb : b ≠ W.heap.size) : W'.heap[W.heap.size]? = some o :=
  (hg.block _ (by show _ < (W.heap.push _).size; rw [Array.size_push]; omega) (by intro e; injection e with e; exact hb e.symm)).trans (heap_alloc_new W o)
theorem new_grown2 {W W' : World} {o o2 : Obj} {b : Nat} (hg : ((W.alloc o).alloc o2).grownBy W' (some b)) (hb : b ≠ W.heap.size) : W'.heap[W.heap.size]? = some o := by
  have h1 : W.heap.size < (W.alloc o).heap.size := by show _ < (W.heap.push _).size; rw [Array.size_push]; omega
  have h2 : ((W.alloc o).alloc o2).heap[W.heap.size]? = some o := (((Below.refl (W.alloc o).heap.size (W.alloc o)).alloc (Nat.le_refl _) o2).block _ h1).trans (heap_alloc_new W o)
  exact (hg.block _ (by show _ < ((W.heap.push _).push _).size; rw [Array.size_push, Array.size_push]; omega) (by intro e; injection e with e; exact hb e.symm)).trans h2

set_option maxRecDepth 100000 in
theorem radd_yes (g cap : Nat) (l : List En) (e : En) (B : Nat) (w : World) (hA : w.ownsRow B tR 8 (.slice (some ⟨g, 0, none⟩) l.length cap) l.length (rowE l)) (hl : l.length < 1000000) (hr : rightE e = true) (h1 : e.name.length ≤ 1048576) (h2 : e.meth.length ≤ 1048576) (h3 : e.tgt.length ≤ 1048576) :
    Calls Tryz.prog 12 #[.slice (some ⟨g, 0, none⟩) l.length cap, encE e] w fun x w' => (∃ g2 cap2, x = .returned (.tuple #[.slice (some ⟨g2, 0, none⟩) (l.length + 1) cap2, .int .i64 0]) ∧ w'.ownsRow w.heap.size tR 8 (.slice (some ⟨g2, 0, none⟩) (l.length + 1) cap2) (l.length + 1) (rowE (l ++ [e]))) ∧ Below w.heap.size w w' := by
  have NR := Lib.hid (fun wx => rright_any e wx (by omega) (by omega) (by omega))
  rw [hr] at NR
  have b0 := Lib.hid ((Below.refl w.heap.size w).alloc (Nat.le_refl _) (.cells (cellsE e) tR))
  have K0 := Lib.hid (Blk.new w tR (cellsE e))
  have HLT := Lib.hid (World.ownsRow.lt hA g rfl).2
  have HN : Hid (∀ W, Below w.heap.size w W → ∀ j u, (rowE l)[j]? = some u → W.cell? ((⟨g, 0, none⟩ : Addr).add j) = some u) := by
    intro W hW j u hj
    have hjl : j < l.length * 8 := by rw [← rowE_len]; exact (List.getElem?_eq_some_iff.1 hj).1
    rw [Addr.add_lit, Nat.zero_add]
    exact (hW.cell (p := ⟨g, j, none⟩) HLT.out).trans ((hA.cellAt j hjl).trans hj)
  have HL := Lib.hid hl
  have HLEN := Lib.hid (rowE_len l)
  have HONE := Lib.hid (rowE_one l)
  have HSN := Lib.hid (rowE_snoc l e)
  have HLA : decide ((1000000 : Int) ≤ ((l.length : Nat) : Int)) = false := decide_eq_false (by omega)
  have HLB : decide (1000000 ≤ l.length) = false := decide_eq_false (by omega)
  clear hr h1 h2 h3 hA hl
  unfold encE at NR ⊢
  unfold cellsE at b0 K0
  go_enter Tryz.func12, Tryz.ntmps12
  go_wp2_with fail
  refine (NR.out _).mono ?_; rintro x wa ⟨rfl, ba⟩
  have RA1 : Hid (RA w wa e) := ⟨b0.out.trans (ba.mono b0.out.size), K0.out.below ba K0.out.lt⟩
  clear ba b0 K0 NR
  go_wp2_with fail
  have k0 : wa.cell? ⟨w.heap.size, 0, none⟩ = some (.string (bs e.name)) := RA1.out.blk.cell 0
  have k1 : wa.cell? ⟨w.heap.size, 1, none⟩ = some (.int .i64 e.conn) := RA1.out.blk.cell 1
  have k2 : wa.cell? ⟨w.heap.size, 2, none⟩ = some (.int .i64 e.numb) := RA1.out.blk.cell 2
  have k3 : wa.cell? ⟨w.heap.size, 3, none⟩ = some (.string (bs e.meth)) := RA1.out.blk.cell 3
  have k4 : wa.cell? ⟨w.heap.size, 4, none⟩ = some (.string (bs e.tgt)) := RA1.out.blk.cell 4
  have k5 : wa.cell? ⟨w.heap.size, 5, none⟩ = some (.int .i64 e.stat) := RA1.out.blk.cell 5
  have k6 : wa.cell? ⟨w.heap.size, 6, none⟩ = some (.int .i64 e.byts) := RA1.out.blk.cell 6
  have k7 : wa.cell? ⟨w.heap.size, 7, none⟩ = some (.int .i64 e.tick) := RA1.out.blk.cell 7
  have hml := RA1.out.size
  have hmne : ¬ w.heap.size = wa.heap.size := by omega
  have hmne1 : ¬ w.heap.size = wa.heap.size + 1 := by omega
  have za : ∀ (W : World) o, (W.alloc o).heap.size = W.heap.size + 1 := fun W o => Array.size_push ..
  have R1 : Hid ((wa.alloc (.cells #[] tR)).drew.ownsRow w.heap.size tR 8 (.slice (some ⟨wa.heap.size, 0, none⟩) 0 0) 0 []) := (World.ownsRow_lit wa #[] 0 RA1.out.below.size (by decide) rfl).drew
  have R2 : Hid (((wa.alloc (.cells #[] tR)).alloc (.cells #[.string (bs e.name), .int .i64 e.conn, .int .i64 e.numb, .string (bs e.meth), .string (bs e.tgt), .int .i64 e.stat, .int .i64 e.byts, .int .i64 e.tick] tR)).drew.ownsRow w.heap.size tR 8 (.slice (some ⟨wa.heap.size, 0, none⟩) 0 0) 0 []) := ((World.ownsRow_lit wa #[] 0 RA1.out.below.size (by decide) rfl).alloc _).drew
  have R3 : Hid (((wa.alloc (.cells #[.string (bs e.name), .int .i64 e.conn, .int .i64 e.numb, .string (bs e.meth), .string (bs e.tgt), .int .i64 e.stat, .int .i64 e.byts, .int .i64 e.tick] tR)).alloc (.cells #[] tR)).drew.ownsRow w.heap.size tR 8 (.slice (some ⟨wa.heap.size + 1, 0, none⟩) 0 0) 0 []) := by
    have h := (World.ownsRow_lit (wa.alloc (.cells #[.string (bs e.name), .int .i64 e.conn, .int .i64 e.numb, .string (bs e.meth), .string (bs e.tgt), .int .i64 e.stat, .int .i64 e.byts, .int .i64 e.tick] tR)) (base := w.heap.size) (e := tR) (size := 8) #[] 0 (RA1.out.alloc _).below.size (by decide) rfl).drew
    rw [za] at h
    exact h
  have S1 : Hid (RA w (wa.alloc (.cells #[] tR)).drew e) := (RA1.out.alloc _).drew
  have S2 : Hid (RA w ((wa.alloc (.cells #[] tR)).alloc (.cells #[.string (bs e.name), .int .i64 e.conn, .int .i64 e.numb, .string (bs e.meth), .string (bs e.tgt), .int .i64 e.stat, .int .i64 e.byts, .int .i64 e.tick] tR)).drew e) := ((RA1.out.alloc _).alloc _).drew
  have S3 : Hid (RA w ((wa.alloc (.cells #[.string (bs e.name), .int .i64 e.conn, .int .i64 e.numb, .string (bs e.meth), .string (bs e.tgt), .int .i64 e.stat, .int .i64 e.byts, .int .i64 e.tick] tR)).alloc (.cells #[] tR)).drew e) := ((RA1.out.alloc _).alloc _).drew
  have N2 : Hid (((wa.alloc (.cells #[] tR)).alloc (.cells #[.string (bs e.name), .int .i64 e.conn, .int .i64 e.numb, .string (bs e.meth), .string (bs e.tgt), .int .i64 e.stat, .int .i64 e.byts, .int .i64 e.tick] tR)).drew.heap[wa.heap.size + 1]? = some (.cells #[.string (bs e.name), .int .i64 e.conn, .int .i64 e.numb, .string (bs e.meth), .string (bs e.tgt), .int .i64 e.stat, .int .i64 e.byts, .int .i64 e.tick] tR)) := by
    have h := heap_alloc_new (wa.alloc (.cells #[] tR)) (.cells #[.string (bs e.name), .int .i64 e.conn, .int .i64 e.numb, .string (bs e.meth), .string (bs e.tgt), .int .i64 e.stat, .int .i64 e.byts, .int .i64 e.tick] tR)
    rw [za] at h
    exact h
  have N3 : Hid (((wa.alloc (.cells #[.string (bs e.name), .int .i64 e.conn, .int .i64 e.numb, .string (bs e.meth), .string (bs e.tgt), .int .i64 e.stat, .int .i64 e.byts, .int .i64 e.tick] tR)).alloc (.cells #[] tR)).drew.heap[wa.heap.size]? = some (.cells #[.string (bs e.name), .int .i64 e.conn, .int .i64 e.numb, .string (bs e.meth), .string (bs e.tgt), .int .i64 e.stat, .int .i64 e.byts, .int .i64 e.tick] tR)) :=
    (((Below.refl (wa.alloc (.cells #[.string (bs e.name), .int .i64 e.conn, .int .i64 e.numb, .string (bs e.meth), .string (bs e.tgt), .int .i64 e.stat, .int .i64 e.byts, .int .i64 e.tick] tR)).heap.size (wa.alloc (.cells #[.string (bs e.name), .int .i64 e.conn, .int .i64 e.numb, .string (bs e.meth), .string (bs e.tgt), .int .i64 e.stat, .int .i64 e.byts, .int .i64 e.tick] tR))).alloc (Nat.le_refl _) (.cells #[] tR)).block _ (by rw [za]; omega)).trans (heap_alloc_new wa _)
  have m0 : (wa.alloc (.cells #[] tR)).cell? ⟨w.heap.size, 0, none⟩ = some (.string (bs e.name)) := (RA1.out.alloc _).blk.cell 0
  have m1 : (wa.alloc (.cells #[] tR)).cell? ⟨w.heap.size, 1, none⟩ = some (.int .i64 e.conn) := (RA1.out.alloc _).blk.cell 1
  have m2 : (wa.alloc (.cells #[] tR)).cell? ⟨w.heap.size, 2, none⟩ = some (.int .i64 e.numb) := (RA1.out.alloc _).blk.cell 2
  have m3 : (wa.alloc (.cells #[] tR)).cell? ⟨w.heap.size, 3, none⟩ = some (.string (bs e.meth)) := (RA1.out.alloc _).blk.cell 3
  have m4 : (wa.alloc (.cells #[] tR)).cell? ⟨w.heap.size, 4, none⟩ = some (.string (bs e.tgt)) := (RA1.out.alloc _).blk.cell 4
  have m5 : (wa.alloc (.cells #[] tR)).cell? ⟨w.heap.size, 5, none⟩ = some (.int .i64 e.stat) := (RA1.out.alloc _).blk.cell 5
  have m6 : (wa.alloc (.cells #[] tR)).cell? ⟨w.heap.size, 6, none⟩ = some (.int .i64 e.byts) := (RA1.out.alloc _).blk.cell 6
  have m7 : (wa.alloc (.cells #[] tR)).cell? ⟨w.heap.size, 7, none⟩ = some (.int .i64 e.tick) := (RA1.out.alloc _).blk.cell 7
  obtain ⟨i0, hi, hz0, hz1, hz2⟩ := info_parts infoREn
  have HU : Hid (∀ u ∈ [Value.string (bs e.name), .int .i64 e.conn, .int .i64 e.numb, .string (bs e.meth), .string (bs e.tgt), .int .i64 e.stat, .int .i64 e.byts, .int .i64 e.tick], u.oneCell' = true) := by
    intro u hu
    simp only [List.mem_cons, List.not_mem_nil, or_false] at hu
    rcases hu with rfl | rfl | rfl | rfl | rfl | rfl | rfl | rfl <;> rfl
  go_region_law (first
    | (refine step_append_at (by rfl) _ _ 26 (by rfl) w.heap.size tR i0 (.agg #[.string ⟨#[]⟩, .int .i64 0, .int .i64 0, .string ⟨#[]⟩, .string ⟨#[]⟩, .int .i64 0, .int .i64 0, .int .i64 0]) 8 88 Tryz.underlying26 hi hz0 hz1 hz2 rfl (by decide) (.slice (some ⟨wa.heap.size, 0, none⟩) 0 0) 0 [] (by rfl) R1.out ⟨g, 0, none⟩ l.length cap (rowE l) (by rfl) HLEN.out (HN.out _ S1.out.below) HONE.out (by have := HL.out; unfold maxLen; omega) (by have := HL.out; omega) S1.out.below.size ?_; intro v6 w6 hown6 hgrow6 _ _; have RA6 := Lib.hid (S1.out.grown hgrow6 (by dsimp only; omega)); have q0 : w6.cell? ⟨w.heap.size, 0, none⟩ = some (.string (bs e.name)) := RA6.out.blk.cell 0; have q1 : w6.cell? ⟨w.heap.size, 1, none⟩ = some (.int .i64 e.conn) := RA6.out.blk.cell 1; have q2 : w6.cell? ⟨w.heap.size, 2, none⟩ = some (.int .i64 e.numb) := RA6.out.blk.cell 2; have q3 : w6.cell? ⟨w.heap.size, 3, none⟩ = some (.string (bs e.meth)) := RA6.out.blk.cell 3; have q4 : w6.cell? ⟨w.heap.size, 4, none⟩ = some (.string (bs e.tgt)) := RA6.out.blk.cell 4; have q5 : w6.cell? ⟨w.heap.size, 5, none⟩ = some (.int .i64 e.stat) := RA6.out.blk.cell 5; have q6 : w6.cell? ⟨w.heap.size, 6, none⟩ = some (.int .i64 e.byts) := RA6.out.blk.cell 6; have q7 : w6.cell? ⟨w.heap.size, 7, none⟩ = some (.int .i64 e.tick) := RA6.out.blk.cell 7)
    | (refine step_append_at (by rfl) _ _ 26 (by rfl) w.heap.size tR i0 (.agg #[.string ⟨#[]⟩, .int .i64 0, .int .i64 0, .string ⟨#[]⟩, .string ⟨#[]⟩, .int .i64 0, .int .i64 0, .int .i64 0]) 8 88 Tryz.underlying26 hi hz0 hz1 hz2 rfl (by decide) (.slice (some ⟨wa.heap.size, 0, none⟩) 0 0) 0 [] (by rfl) R2.out ⟨g, 0, none⟩ l.length cap (rowE l) (by rfl) HLEN.out (HN.out _ S2.out.below) HONE.out (by have := HL.out; unfold maxLen; omega) (by have := HL.out; omega) S2.out.below.size ?_; intro v6 w6 hown6 hgrow6 _ _; have RA6 := Lib.hid (S2.out.grown hgrow6 (by dsimp only; omega)); have NB6 := Lib.hid ((hgrow6.block (wa.heap.size + 1) (by first | (rw [show ((wa.alloc (.cells #[] tR)).alloc (.cells #[.string (bs e.name), .int .i64 e.conn, .int .i64 e.numb, .string (bs e.meth), .string (bs e.tgt), .int .i64 e.stat, .int .i64 e.byts, .int .i64 e.tick] tR)).drew.heap.size = wa.heap.size + 2 from by rw [show ((wa.alloc (.cells #[] tR)).alloc (.cells #[.string (bs e.name), .int .i64 e.conn, .int .i64 e.numb, .string (bs e.meth), .string (bs e.tgt), .int .i64 e.stat, .int .i64 e.byts, .int .i64 e.tick] tR)).drew.heap.size = ((wa.alloc (.cells #[] tR)).alloc (.cells #[.string (bs e.name), .int .i64 e.conn, .int .i64 e.numb, .string (bs e.meth), .string (bs e.tgt), .int .i64 e.stat, .int .i64 e.byts, .int .i64 e.tick] tR)).heap.size from rfl, za, za]]; omega) | (rw [show ((wa.alloc (.cells #[.string (bs e.name), .int .i64 e.conn, .int .i64 e.numb, .string (bs e.meth), .string (bs e.tgt), .int .i64 e.stat, .int .i64 e.byts, .int .i64 e.tick] tR)).alloc (.cells #[] tR)).drew.heap.size = wa.heap.size + 2 from by rw [show ((wa.alloc (.cells #[.string (bs e.name), .int .i64 e.conn, .int .i64 e.numb, .string (bs e.meth), .string (bs e.tgt), .int .i64 e.stat, .int .i64 e.byts, .int .i64 e.tick] tR)).alloc (.cells #[] tR)).drew.heap.size = ((wa.alloc (.cells #[.string (bs e.name), .int .i64 e.conn, .int .i64 e.numb, .string (bs e.meth), .string (bs e.tgt), .int .i64 e.stat, .int .i64 e.byts, .int .i64 e.tick] tR)).alloc (.cells #[] tR)).heap.size from rfl, za, za]]; omega)) (by intro h; injection h with h; first | omega | (dsimp only at h; omega))).trans N2.out); have q0 : w6.cell? ⟨w.heap.size, 0, none⟩ = some (.string (bs e.name)) := RA6.out.blk.cell 0; have q1 : w6.cell? ⟨w.heap.size, 1, none⟩ = some (.int .i64 e.conn) := RA6.out.blk.cell 1; have q2 : w6.cell? ⟨w.heap.size, 2, none⟩ = some (.int .i64 e.numb) := RA6.out.blk.cell 2; have q3 : w6.cell? ⟨w.heap.size, 3, none⟩ = some (.string (bs e.meth)) := RA6.out.blk.cell 3; have q4 : w6.cell? ⟨w.heap.size, 4, none⟩ = some (.string (bs e.tgt)) := RA6.out.blk.cell 4; have q5 : w6.cell? ⟨w.heap.size, 5, none⟩ = some (.int .i64 e.stat) := RA6.out.blk.cell 5; have q6 : w6.cell? ⟨w.heap.size, 6, none⟩ = some (.int .i64 e.byts) := RA6.out.blk.cell 6; have q7 : w6.cell? ⟨w.heap.size, 7, none⟩ = some (.int .i64 e.tick) := RA6.out.blk.cell 7)
    | (refine step_append_at (by rfl) _ _ 26 (by rfl) w.heap.size tR i0 (.agg #[.string ⟨#[]⟩, .int .i64 0, .int .i64 0, .string ⟨#[]⟩, .string ⟨#[]⟩, .int .i64 0, .int .i64 0, .int .i64 0]) 8 88 Tryz.underlying26 hi hz0 hz1 hz2 rfl (by decide) (.slice (some ⟨wa.heap.size + 1, 0, none⟩) 0 0) 0 [] (by rfl) R3.out ⟨g, 0, none⟩ l.length cap (rowE l) (by rfl) HLEN.out (HN.out _ S3.out.below) HONE.out (by have := HL.out; unfold maxLen; omega) (by have := HL.out; omega) S3.out.below.size ?_; intro v6 w6 hown6 hgrow6 _ _; have RA6 := Lib.hid (S3.out.grown hgrow6 (by dsimp only; omega)); have NB6 := Lib.hid ((hgrow6.block (wa.heap.size) (by first | (rw [show ((wa.alloc (.cells #[] tR)).alloc (.cells #[.string (bs e.name), .int .i64 e.conn, .int .i64 e.numb, .string (bs e.meth), .string (bs e.tgt), .int .i64 e.stat, .int .i64 e.byts, .int .i64 e.tick] tR)).drew.heap.size = wa.heap.size + 2 from by rw [show ((wa.alloc (.cells #[] tR)).alloc (.cells #[.string (bs e.name), .int .i64 e.conn, .int .i64 e.numb, .string (bs e.meth), .string (bs e.tgt), .int .i64 e.stat, .int .i64 e.byts, .int .i64 e.tick] tR)).drew.heap.size = ((wa.alloc (.cells #[] tR)).alloc (.cells #[.string (bs e.name), .int .i64 e.conn, .int .i64 e.numb, .string (bs e.meth), .string (bs e.tgt), .int .i64 e.stat, .int .i64 e.byts, .int .i64 e.tick] tR)).heap.size from rfl, za, za]]; omega) | (rw [show ((wa.alloc (.cells #[.string (bs e.name), .int .i64 e.conn, .int .i64 e.numb, .string (bs e.meth), .string (bs e.tgt), .int .i64 e.stat, .int .i64 e.byts, .int .i64 e.tick] tR)).alloc (.cells #[] tR)).drew.heap.size = wa.heap.size + 2 from by rw [show ((wa.alloc (.cells #[.string (bs e.name), .int .i64 e.conn, .int .i64 e.numb, .string (bs e.meth), .string (bs e.tgt), .int .i64 e.stat, .int .i64 e.byts, .int .i64 e.tick] tR)).alloc (.cells #[] tR)).drew.heap.size = ((wa.alloc (.cells #[.string (bs e.name), .int .i64 e.conn, .int .i64 e.numb, .string (bs e.meth), .string (bs e.tgt), .int .i64 e.stat, .int .i64 e.byts, .int .i64 e.tick] tR)).alloc (.cells #[] tR)).heap.size from rfl, za, za]]; omega)) (by intro h; injection h with h; first | omega | (dsimp only at h; omega))).trans N3.out); have q0 : w6.cell? ⟨w.heap.size, 0, none⟩ = some (.string (bs e.name)) := RA6.out.blk.cell 0; have q1 : w6.cell? ⟨w.heap.size, 1, none⟩ = some (.int .i64 e.conn) := RA6.out.blk.cell 1; have q2 : w6.cell? ⟨w.heap.size, 2, none⟩ = some (.int .i64 e.numb) := RA6.out.blk.cell 2; have q3 : w6.cell? ⟨w.heap.size, 3, none⟩ = some (.string (bs e.meth)) := RA6.out.blk.cell 3; have q4 : w6.cell? ⟨w.heap.size, 4, none⟩ = some (.string (bs e.tgt)) := RA6.out.blk.cell 4; have q5 : w6.cell? ⟨w.heap.size, 5, none⟩ = some (.int .i64 e.stat) := RA6.out.blk.cell 5; have q6 : w6.cell? ⟨w.heap.size, 6, none⟩ = some (.int .i64 e.byts) := RA6.out.blk.cell 6; have q7 : w6.cell? ⟨w.heap.size, 7, none⟩ = some (.int .i64 e.tick) := RA6.out.blk.cell 7)
    | (refine step_append_at (by rfl) _ _ 26 (by rfl) w.heap.size tR i0 (.agg #[.string ⟨#[]⟩, .int .i64 0, .int .i64 0, .string ⟨#[]⟩, .string ⟨#[]⟩, .int .i64 0, .int .i64 0, .int .i64 0]) 8 88 Tryz.underlying26 hi hz0 hz1 hz2 rfl (by decide) v6 (0 + l.length) ([] ++ rowE l) (by rfl) (hown6.alloc (.cells #[.string (bs e.name), .int .i64 e.conn, .int .i64 e.numb, .string (bs e.meth), .string (bs e.tgt), .int .i64 e.stat, .int .i64 e.byts, .int .i64 e.tick] tR)) ⟨w6.heap.size, 0, none⟩ 1 1 [Value.string (bs e.name), .int .i64 e.conn, .int .i64 e.numb, .string (bs e.meth), .string (bs e.tgt), .int .i64 e.stat, .int .i64 e.byts, .int .i64 e.tick] (by rfl) rfl (World.news_of_block (heap_alloc_new w6 _)) HU.out (by have := HL.out; unfold maxLen; omega) (by have := HL.out; omega) (RA6.out.alloc _).below.size ?_; intro v9 w9 hown9 hgrow9 _ _; have B9 : Below w.heap.size w w9 := (RA6.out.alloc _).below.trans (own_belowL (hown6.alloc _) hgrow9 (RA6.out.alloc _).below.size))
    | (refine step_append_at (by rfl) _ _ 26 (by rfl) w.heap.size tR i0 (.agg #[.string ⟨#[]⟩, .int .i64 0, .int .i64 0, .string ⟨#[]⟩, .string ⟨#[]⟩, .int .i64 0, .int .i64 0, .int .i64 0]) 8 88 Tryz.underlying26 hi hz0 hz1 hz2 rfl (by decide) v6 (0 + l.length) ([] ++ rowE l) (by rfl) hown6 ⟨_, 0, none⟩ 1 1 [Value.string (bs e.name), .int .i64 e.conn, .int .i64 e.numb, .string (bs e.meth), .string (bs e.tgt), .int .i64 e.stat, .int .i64 e.byts, .int .i64 e.tick] (by rfl) rfl (World.news_of_block NB6.out) HU.out (by have := HL.out; unfold maxLen; omega) (by have := HL.out; omega) RA6.out.below.size ?_; intro v9 w9 hown9 hgrow9 _ _; have B9 : Below w.heap.size w w9 := RA6.out.below.trans (own_belowL hown6 hgrow9 RA6.out.below.size)))
  all_goals
    try rw [Nat.zero_add, List.nil_append] at hown9
    obtain ⟨g9, cap9, hv9, hg9, _⟩ := hown9.form (by omega)
    subst hv9
    have O9 : Hid (w9.ownsRow w.heap.size tR 8 (.slice (some ⟨g9, 0, none⟩) (l.length + 1) cap9) (l.length + 1) (rowE (l ++ [e]))) := by unfold Hid; rw [HSN.out]; exact hown9
    have D9 := Lib.hid B9
    clear hown9 hgrow9 B9 R1 R2 R3 S1 S2 S3 N2 N3
    first | go_wp2_with fail | skip
    exact bodyPost_ret (v := .tuple #[.slice (some ⟨g9, 0, none⟩) (l.length + 1) cap9, .int .i64 0]) (by simp [results, Tryz.results12, go_sem]) rfl ⟨⟨g9, cap9, rfl, O9.out⟩, D9.out⟩
end Go.Proofs.YtfgaiopkclogmaaGreatDoor
namespace Go.Proofs.YtfgaiopkclogmaaGreatDoor
open Go Go.RowKit Go.MuLone
set_option maxHeartbeats 4000000

def addL (l : List En) (e : En) : List En := if rightE e = true then l ++ [e] else l
def codeA (e : En) : Int := if rightE e = true then 0 else 280
theorem addL_ok {l : List En} {e : En} (h : ∀ x ∈ l, okE x) (he : intsE e) : ∀ x ∈ addL l e, okE x := by
  unfold addL
  split
  · rename_i hr
    intro x hx
    rw [List.mem_append, List.mem_singleton] at hx
    rcases hx with hx | rfl
    · exact h x hx
    · exact ⟨hr, he⟩
  · exact h
theorem addL_len (l : List En) (e : En) : l.length ≤ (addL l e).length ∧ (addL l e).length ≤ l.length + 1 := by
  unfold addL
  split
  · rw [List.length_append, List.length_singleton]; omega
  · omega
/-- the blocks of a book -/
def bokS (b : Nat) (v : Value) : Nat → Prop := fun i => i = b ∨ v.ownBlock = some i
def AddedA (w : World) (b : Nat) (v : Value) (l : List En) (e : En) (w' : World) : Prop :=
  ∃ v', Bok w' b v' (addL l e) ∧ (v'.ownBlock = v.ownBlock ∨ ∃ k, v'.ownBlock = some k ∧ w.heap.size ≤ k) ∧ Keeps (bokS b v) w w'
theorem add_any (b : Nat) (v : Value) (l : List En) (e : En) (w : World) (hE : EnvT w) (hB : Bok w b v l) (hl : l.length < 1000000) (h1 : e.name.length ≤ 1048576) (h2 : e.meth.length ≤ 1048576) (h3 : e.tgt.length ≤ 1048576) :
    Calls Tryz.prog 11 #[.pointer (some ⟨b, 0, none⟩), .string (bs e.name), visE e] w fun x w' => x = .returned (.int .i64 (codeA e)) ∧ AddedA w b v l e w' := by
  unfold codeA AddedA addL
  cases hr : rightE e with
  | true =>
    rw [if_pos rfl, if_pos rfl]
    exact add_yes b v l e w hE hB hr hl h1 h2 h3
  | false =>
    rw [if_neg (by decide), if_neg (by decide)]
    refine (add_no b v l e w hE hB hr h1 h2 h3).mono fun x w' ⟨hx, hb⟩ => ⟨hx, v, hB.next hb, Or.inl rfl, Keeps.of hb (Nat.le_refl _)⟩
theorem radd_any (g cap : Nat) (l : List En) (e : En) (B : Nat) (w : World) (hA : w.ownsRow B tR 8 (.slice (some ⟨g, 0, none⟩) l.length cap) l.length (rowE l)) (hB : B ≤ w.heap.size) (hl : l.length < 1000000) (h1 : e.name.length ≤ 1048576) (h2 : e.meth.length ≤ 1048576) (h3 : e.tgt.length ≤ 1048576) :
    Calls Tryz.prog 12 #[.slice (some ⟨g, 0, none⟩) l.length cap, encE e] w fun x w' => ∃ g2 cap2, x = .returned (.tuple #[.slice (some ⟨g2, 0, none⟩) (addL l e).length cap2, .int .i64 (codeA e)]) ∧ w'.ownsRow B tR 8 (.slice (some ⟨g2, 0, none⟩) (addL l e).length cap2) (addL l e).length (rowE (addL l e)) ∧ Below w.heap.size w w' ∧ (g2 = g ∨ w.heap.size ≤ g2) := by
  unfold codeA addL
  cases hr : rightE e with
  | true =>
    rw [if_pos rfl, if_pos rfl]
    refine (radd_yes g cap l e B w hA hl hr h1 h2 h3).mono ?_
    rintro x w' ⟨⟨g2, cap2, rfl, hown⟩, hb⟩
    refine ⟨g2, cap2, by rw [List.length_append, List.length_singleton], ?_, hb, Or.inr (World.ownsRow.lt hown g2 rfl).1⟩
    rw [List.length_append, List.length_singleton]
    refine ⟨hown.1, ?_⟩
    rcases hown.2 with h | ⟨g', cap', cur, h, hb', rest⟩
    · exact Or.inl h
    · exact Or.inr ⟨g', cap', cur, h, Nat.le_trans hB hb', rest⟩
  | false =>
    rw [if_neg (by decide), if_neg (by decide)]
    refine (radd_no _ e w hr h1 h2 h3).mono ?_
    rintro x w' ⟨rfl, hb⟩
    exact ⟨g, cap, rfl, row_kept hA (fun k hk => hb.block k (World.ownsRow.lt hA k hk).2), hb, Or.inl rfl⟩

/-- two books and the document's two lists, apart from one another and from the blocks C; all behind the start w -/
structure TwoSt (w W : World) (C : Nat → Prop) (a : Nat) (va : Value) (la : List En) (b : Nat) (vb : Value) (lb : List En) (gl cl : Nat) (ll : List En) (gm cm : Nat) (lm : List En) : Prop where
  A : Bok W a va la
  B : Bok W b vb lb
  ra : W.ownsRow w.heap.size tR 8 (.slice (some ⟨gl, 0, none⟩) ll.length cl) ll.length (rowE ll)
  rb : W.ownsRow w.heap.size tR 8 (.slice (some ⟨gm, 0, none⟩) lm.length cm) lm.length (rowE lm)
  ab : ∀ i, bokS a va i → ¬ bokS b vb i
  al : ¬ bokS a va gl
  am : ¬ bokS a va gm
  bl : ¬ bokS b vb gl
  bm : ¬ bokS b vb gm
  ac : ∀ i, bokS a va i → ¬ C i
  bc : ∀ i, bokS b vb i → ¬ C i
  lc : ¬ C gl
  mc : ¬ C gm
  cb : ∀ i, C i → i < W.heap.size
  ga : ∀ i, bokS a va i → w.heap.size ≤ i
  gb : ∀ i, bokS b vb i → w.heap.size ≤ i
  below : Below w.heap.size w W
theorem bokS_lt {W : World} {b : Nat} {v : Value} {l : List En} (h : Bok W b v l) (i : Nat) (hi : bokS b v i) : i < W.heap.size := by
  rcases hi with rfl | hi
  · exact h.blk.lt
  · exact (h.rowlt i hi).2
theorem TwoSt.swap {w W : World} {C : Nat → Prop} {a : Nat} {va : Value} {la : List En} {b : Nat} {vb : Value} {lb : List En} {gl cl : Nat} {ll : List En} {gm cm : Nat} {lm : List En} (h : TwoSt w W C a va la b vb lb gl cl ll gm cm lm) : TwoSt w W C b vb lb a va la gm cm lm gl cl ll :=
  ⟨h.B, h.A, h.rb, h.ra, fun i hb ha => h.ab i ha hb, h.bm, h.bl, h.am, h.al, h.bc, h.ac, h.mc, h.lc, h.cb, h.gb, h.ga, h.below⟩
theorem TwoSt.next {w W W' : World} {C : Nat → Prop} {a : Nat} {va : Value} {la : List En} {b : Nat} {vb : Value} {lb : List En} {gl cl : Nat} {ll : List En} {gm cm : Nat} {lm : List En} (h : TwoSt w W C a va la b vb lb gl cl ll gm cm lm) (hb : Below W.heap.size W W') : TwoSt w W' C a va la b vb lb gl cl ll gm cm lm :=
  ⟨h.A.next hb, h.B.next hb, row_kept h.ra (fun g hg => hb.block g (World.ownsRow.lt h.ra g hg).2), row_kept h.rb (fun g hg => hb.block g (World.ownsRow.lt h.rb g hg).2), h.ab, h.al, h.am, h.bl, h.bm, h.ac, h.bc, h.lc, h.mc, fun i hi => Nat.lt_of_lt_of_le (h.cb i hi) hb.size, h.ga, h.gb, h.below.trans (hb.mono h.below.size)⟩
theorem TwoSt.free {w W : World} {C D : Nat → Prop} {a : Nat} {va : Value} {la : List En} {b : Nat} {vb : Value} {lb : List En} {gl cl : Nat} {ll : List En} {gm cm : Nat} {lm : List En} (h : TwoSt w W C a va la b vb lb gl cl ll gm cm lm) (hD : ∀ i, D i → False) : TwoSt w W D a va la b vb lb gl cl ll gm cm lm :=
  { h with ac := fun i _ hd => hD i hd, bc := fun i _ hd => hD i hd, lc := hD _, mc := hD _, cb := fun i hd => (hD i hd).elim }
/-- a third thing has come, behind what there was -/
theorem TwoSt.third {w W W' : World} {C D : Nat → Prop} {a : Nat} {va : Value} {la : List En} {b : Nat} {vb : Value} {lb : List En} {gl cl : Nat} {ll : List En} {gm cm : Nat} {lm : List En} (h : TwoSt w W C a va la b vb lb gl cl ll gm cm lm) (hb : Below W.heap.size W W') (hD : ∀ i, D i → W.heap.size ≤ i ∧ i < W'.heap.size) : TwoSt w W' D a va la b vb lb gl cl ll gm cm lm :=
  { h.next hb with
    ac := fun i hi hd => by have h1 := bokS_lt h.A i hi; have h2 := hD i hd; omega
    bc := fun i hi hd => by have h1 := bokS_lt h.B i hi; have h2 := hD i hd; omega
    lc := fun hd => by have h1 := (World.ownsRow.lt h.ra gl rfl).2; have h2 := hD _ hd; omega
    mc := fun hd => by have h1 := (World.ownsRow.lt h.rb gm rfl).2; have h2 := hD _ hd; omega
    cb := fun i hd => (hD i hd).2 }
/-- the first book has got an entry -/
theorem TwoSt.add {w W W' : World} {C : Nat → Prop} {a : Nat} {va : Value} {la : List En} {b : Nat} {vb : Value} {lb : List En} {gl cl : Nat} {ll : List En} {gm cm : Nat} {lm : List En} {e : En} (h : TwoSt w W C a va la b vb lb gl cl ll gm cm lm) (hd : AddedA W a va la e W') : ∃ va', TwoSt w W' C a va' (addL la e) b vb lb gl cl ll gm cm lm := by
  obtain ⟨va', hbk, hown, hk⟩ := hd
  refine ⟨va', ?_⟩
  have sub : ∀ i, bokS a va' i → bokS a va i ∨ W.heap.size ≤ i := by
    rintro i (hi | hi)
    · exact Or.inl (Or.inl hi)
    · rcases hown with h1 | ⟨k, h1, h2⟩
      · rw [h1] at hi; exact Or.inl (Or.inr hi)
      · rw [h1] at hi; injection hi with hi; exact Or.inr (by omega)
  have lgl := (World.ownsRow.lt h.ra gl rfl).2
  have lgm := (World.ownsRow.lt h.rb gm rfl).2
  have hws := h.below.size
  exact {
    A := hbk
    B := h.B.keeps hk (fun hc => h.ab _ hc (Or.inl rfl)) (fun g hg hc => h.ab _ hc (Or.inr hg))
    ra := row_kept h.ra (fun g hg => by injection hg with hg; subst hg; exact hk.block _ lgl h.al)
    rb := row_kept h.rb (fun g hg => by injection hg with hg; subst hg; exact hk.block _ lgm h.am)
    ab := fun i hi hb => by
      rcases sub i hi with h1 | h1
      · exact h.ab i h1 hb
      · have := bokS_lt h.B i hb; omega
    al := fun hc => by rcases sub _ hc with h1 | h1; exact h.al h1; omega
    am := fun hc => by rcases sub _ hc with h1 | h1; exact h.am h1; omega
    bl := h.bl
    bm := h.bm
    ac := fun i hi hc => by
      rcases sub i hi with h1 | h1
      · exact h.ac i h1 hc
      · have := h.cb i hc; omega
    bc := h.bc
    lc := h.lc
    mc := h.mc
    cb := fun i hi => Nat.lt_of_lt_of_le (h.cb i hi) hk.size
    ga := fun i hi => by
      rcases sub i hi with h1 | h1
      · exact h.ga i h1
      · omega
    gb := h.gb
    below := h.below.trans (hk.below (fun i hi hc => by have := h.ga i hc; omega) hws) }
/-- the first list has got an entry -/
theorem TwoSt.row {w W W' : World} {C : Nat → Prop} {a : Nat} {va : Value} {la : List En} {b : Nat} {vb : Value} {lb : List En} {gl cl : Nat} {ll : List En} {gm cm : Nat} {lm : List En} {g2 c2 : Nat} {l2 : List En} (h : TwoSt w W C a va la b vb lb gl cl ll gm cm lm) (hr : W'.ownsRow w.heap.size tR 8 (.slice (some ⟨g2, 0, none⟩) l2.length c2) l2.length (rowE l2)) (hb : Below W.heap.size W W') (hg : g2 = gl ∨ W.heap.size ≤ g2) : TwoSt w W' C a va la b vb lb g2 c2 l2 gm cm lm :=
  { h.next hb with
    ra := hr
    al := fun hc => by
      rcases hg with rfl | hg
      · exact h.al hc
      · have := bokS_lt h.A _ hc; omega
    bl := fun hc => by
      rcases hg with rfl | hg
      · exact h.bl hc
      · have := bokS_lt h.B _ hc; omega
    lc := fun hc => by
      rcases hg with rfl | hg
      · exact h.lc hc
      · have := h.cb _ hc; omega }
/-- the third thing has been turned -/
theorem TwoSt.turned {w W W' : World} {C D : Nat → Prop} {a : Nat} {va : Value} {la : List En} {b : Nat} {vb : Value} {lb : List En} {gl cl : Nat} {ll : List En} {gm cm : Nat} {lm : List En} (h : TwoSt w W C a va la b vb lb gl cl ll gm cm lm) (hk : Keeps C W W') (hge : ∀ i, C i → w.heap.size ≤ i) (hD : ∀ i, D i → False) : TwoSt w W' D a va la b vb lb gl cl ll gm cm lm :=
  { A := h.A.keeps hk (h.ac _ (Or.inl rfl)) (fun g hg => h.ac _ (Or.inr hg))
    B := h.B.keeps hk (h.bc _ (Or.inl rfl)) (fun g hg => h.bc _ (Or.inr hg))
    ra := row_kept h.ra (fun g hg => by injection hg with hg; subst hg; exact hk.block _ (World.ownsRow.lt h.ra gl rfl).2 h.lc)
    rb := row_kept h.rb (fun g hg => by injection hg with hg; subst hg; exact hk.block _ (World.ownsRow.lt h.rb gm rfl).2 h.mc)
    ab := h.ab
    al := h.al
    am := h.am
    bl := h.bl
    bm := h.bm
    ac := fun i _ hd => hD i hd
    bc := fun i _ hd => hD i hd
    lc := hD _
    mc := hD _
    cb := fun i hd => (hD i hd).elim
    ga := h.ga
    gb := h.gb
    below := h.below.trans (hk.below (fun i hi hc => by have := hge i hc; omega) h.below.size) }
end Go.Proofs.YtfgaiopkclogmaaGreatDoor
