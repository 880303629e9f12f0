/- Books of ledger: totals. -/
import Derived.Test.YtfgaiopkclogmaaGreatDoorLedgCeJ
import Derived.Test.YtfgaiopkclogmaaGreatDoorMg
namespace Go.Proofs.YtfgaiopkclogmaaGreatDoor
open Go Go.RowKit Go.MuLone Go.Maps Go.WideMaps
set_option maxHeartbeats 8000000

abbrev tT : TypeId := 65
theorem lawS : Keyed Tryz.prog 9 := string_keyed Tryz.underlying9
theorem zeroI (w : World) : (zeroValue 3).run Tryz.prog w = .ok (.int .i64 0) w := by kernel_rfl
theorem blk_grown {w w' : World} {b r : Nat} {T : TypeId} {C : Array Value} (hg : w.grownBy w' (some r)) (hne : b ≠ r) (h : Blk w b T C) : Blk w' b T C := (hg.block b h.lt (by simpa using hne)).trans h
theorem blk_put {w : World} {a : Addr} {v : Value} {b : Nat} {T : TypeId} {C : Array Value} (ha : b ≠ a.block) (h : Blk w b T C) : Blk (w.setCell a v) b T C := by unfold Blk; rw [Below.heap_setCell _ _ _ _ ha]; exact h
theorem grown_of {w w' : World} (hb : Below w.heap.size w w') : w.grownBy w' none := ⟨hb.os, hb.tape, hb.output, hb.size, fun i hi _ => hb.block i hi⟩
theorem keeps_grown {S : Nat → Prop} {w w' : World} {r : Nat} (hg : w.grownBy w' (some r)) (hr : S r) : Keeps S w w' := ⟨hg.os, hg.tape, hg.output, hg.size, fun i hi hn => hg.block i hi (fun e => hn (by injection e with e; rw [e]; exact hr))⟩
theorem keyB (x : Tx) (h : x.length ≤ 1073741824) : keyOf Tryz.prog 9 (.string (bs x)) = some (keyL x) := keyOf_string_mk Tryz.underlying9 (by rw [size_bs]; unfold maxLen; omega)
theorem cnt_at (xs : List Tx) (x : Tx) {n : Int} (hn : cntIn (cntF xs) x = n) (c : Int) (h : (mapC xs).atKey (keyL x) (.lit (.int .i64 0)) = .lit (.int .i64 c)) : c = n := by
  rw [(mapC_facts xs).2.1 x, hn] at h
  injection h with h; injection h with _ h; exact h.symm
theorem cnt_put (xs : List Tx) (x : Tx) {n : Int} (hn : cntIn (cntF xs) x = n) : (mapC xs).put (keyL x) (.lit (.int .i64 (n + 1))) = mapC (xs ++ [x]) := (mapC_snoc xs x (by rw [(mapC_facts xs).2.1 x, hn])).symm
theorem path_le (l : List UInt8) : (pathL l).length ≤ l.length := cutA_le 63 l
abbrev setT (w : World) : Nat → Prop := fun i => i = w.heap.size + 1 ∨ i = w.heap.size + 2 ∨ i = w.heap.size + 3
abbrev zeroT : Array Value := #[.int .i64 0, .int .i64 0, .int .i64 0, .int .i64 0, .int .i64 0, .int .i64 0, .int .i64 0, .int .i64 0, .int .i64 0]
/-- where Totals stands -/
structure TSt (w w2 wr : World) (l : List En) : Prop where
  tb : Blk wr (w.heap.size + 1) tT (totC (l.length : Nat) (bytesL l) (clsL 1 l) (clsL 2 l) (clsL 3 l) (clsL 4 l) (clsL 5 l) 0 0)
  box : Blk wr w.heap.size tT zeroT
  m1 : wr.ownsMap Tryz.prog 9 (plainElem (H := Unit) Tryz.prog 3) (w.heap.size + 2) l.length (mapC (namesL l))
  m2 : wr.ownsMap Tryz.prog 9 (plainElem (H := Unit) Tryz.prog 3) (w.heap.size + 3) l.length (mapC (pathsL l))
  kp : Keeps (fun i => i = w.heap.size + 1 ∨ i = w.heap.size + 2 ∨ i = w.heap.size + 3) w2 wr

set_option maxRecDepth 100000 in
theorem totals_any (pv : Value) (l : List En) (w : World) (hZ : EnvZ w) (hE : Ent pv l w) (hok : ∀ e ∈ l, okE e) (hl : l.length ≤ 1000000) :
    Calls Tryz.prog 24 #[pv] w fun e w' => e = .returned (.agg (totL l)) ∧ Below w.heap.size w w' := by
  have z1 : ∀ (W : World) (o : Obj), (W.alloc o).heap.size = W.heap.size + 1 := fun W o => Array.size_push ..
  have hmm := @run_makeMap Tryz.prog
  have B0 := Lib.hid (((((Below.refl w.heap.size w).alloc (Nat.le_refl _) (.cells zeroT tT)).alloc (by rw [z1]; omega) (.cells zeroT tT)).alloc (by rw [z1, z1]; omega) (.map #[] 0)).alloc (by rw [z1, z1, z1]; omega) (.map #[] 0))
  have T0 : Hid (∀ w2, Below ((((w.alloc (.cells zeroT tT)).alloc (.cells zeroT tT)).alloc (.map #[] 0)).alloc (.map #[] 0)).heap.size ((((w.alloc (.cells zeroT tT)).alloc (.cells zeroT tT)).alloc (.map #[] 0)).alloc (.map #[] 0)) w2 → TSt w w2 w2 []) := by
    intro w2 hb
    have k0 := Blk.new w tT zeroT
    have k1 := Blk.new (w.alloc (.cells zeroT tT)) tT zeroT
    rw [z1] at k1
    have q1 := World.ownsMap_made (H := Unit) ((w.alloc (.cells zeroT tT)).alloc (.cells zeroT tT)) Tryz.prog 9 (plainElem (H := Unit) Tryz.prog 3)
    rw [z1, z1] at q1
    have q2 := World.ownsMap_made (H := Unit) (((w.alloc (.cells zeroT tT)).alloc (.cells zeroT tT)).alloc (.map #[] 0)) Tryz.prog 9 (plainElem (H := Unit) Tryz.prog 3)
    rw [z1, z1, z1] at q2
    have hg : ((((w.alloc (.cells zeroT tT)).alloc (.cells zeroT tT)).alloc (.map #[] 0)).alloc (.map #[] 0)).grownBy w2 none := ⟨hb.os, hb.tape, hb.output, hb.size, fun i hi _ => hb.block i hi⟩
    exact ⟨((k1.alloc _).alloc _).below hb (by rw [z1, z1, z1, z1]; omega), (((k0.alloc _).alloc _).alloc _).below hb (by rw [z1, z1, z1, z1]; omega), (q1.alloc _).kept hg (by simp), q2.kept hg (by simp), Keeps.refl _ _⟩
  have Z0 : Hid (((((w.alloc (.cells zeroT tT)).alloc (.cells zeroT tT)).alloc (.map #[] 0)).alloc (.map #[] 0)).heap.size = w.heap.size + 4) := by unfold Hid; rw [z1, z1, z1, z1]
  have HE := Lib.hid (hE _ B0.out)
  have HZ := Lib.hid hZ
  have HOK := Lib.hid hok
  have hl2 : l.length ≤ 1073741824 := by omega
  have HL := Lib.hid hl
  clear z1 hE hZ hok hl
  go_enter Tryz.func24, Tryz.ntmps24
  go_wp2_with fail
  refine HE.out.mono ?_; rintro x w2 ⟨⟨v2, rfl, hown⟩, b2⟩
  have ROW := Lib.hid hown
  have B2 := Lib.hid (B0.out.trans (b2.mono B0.out.size))
  have T2 := Lib.hid (T0.out w2 b2)
  have S2 := Lib.hid (show w.heap.size + 4 ≤ w2.heap.size from Z0.out ▸ b2.size)
  have RB : Hid (∀ g, v2.ownBlock = some g → w.heap.size + 4 ≤ g) := fun g hg => Z0.out ▸ (World.ownsRow.lt ROW.out g hg).1
  clear hown b2 HE T0 B0 Z0
  obtain ⟨sp, cap, hv2⟩ := row_slice ROW.out
  subst hv2
  go_wp2_with fail
  go_loopw [13] (fun i wr => ∃ k : Nat, k ≤ l.length ∧ i = .int .i64 k ∧ Hid (TSt w w2 wr (l.take k))) (fun i _ => l.length - (intOf i).toNat)
  case atStart => exact ⟨0, Nat.zero_le _, rfl, T2⟩
  clear T2
  case round =>
    obtain ⟨k, hk, rfl, hT⟩ := hrel
    obtain ⟨wq, hwq⟩ : ∃ wq, wq = wr := ⟨wr, rfl⟩
    subst hwq
    have DW : Hid (Below w.heap.size w wq) := B2.out.trans (hT.out.kp.below (fun i hi h => by omega) B2.out.size)
    by_cases hlt : k < l.length
    · have q0 : (0 : Int) ≤ (k : Int) := by omega
      have q1 : (k : Int) < (l.length : Int) := by omega
      have ROWQ := Lib.hid (row_kept ROW.out (fun g hg => hT.out.kp.block g (World.ownsRow.lt ROW.out g hg).2 (by have := RB.out g hg; omega)))
      obtain ⟨g, rfl⟩ : ∃ g, sp = some ⟨g, 0, none⟩ := by
        rcases ROW.out.2 with ⟨_, h0⟩ | ⟨g, cap', cur, h, _⟩
        · omega
        · injection h with h _ _; exact ⟨g, h⟩
      have HX := Lib.hid (HOK.out l[k] (List.getElem_mem hlt))
      have ck : ∀ i, i < 8 → wq.cell? ⟨g, k * 8 + i, none⟩ = (cellsE l[k])[i]? := fun i hi => (ROWQ.out.cellAt (k * 8 + i) (by omega)).trans (rowE_get l k i hlt hi)
      have htk : l.take (k + 1) = l.take k ++ [l[k]] := List.take_succ_eq_append_getElem hlt
      have hbd := bytesL_bd (l.take k) (fun e he => (rightE_facts (HOK.out e (List.mem_of_mem_take he)).right).1.2.2.1)
      have hlk : (l.take k).length = k := by rw [List.length_take]; omega
      obtain ⟨e, he⟩ := name_it l[k]
      rw [he.out] at HX ck htk
      clear he
      obtain ⟨acc, hacc⟩ := name_it (l.take k)
      rw [hacc.out] at hT htk hbd hlk
      have HTK := Lib.hid htk
      have HLK := Lib.hid hlk
      clear hacc htk
      have c0 : wq.cell? ⟨g, k * 8, none⟩ = some (.string (bs e.name)) := ck 0 (by decide)
      have c1 : wq.cell? ⟨g, k * 8 + 1, none⟩ = some (.int .i64 e.conn) := ck 1 (by decide)
      have c2 : wq.cell? ⟨g, k * 8 + 2, none⟩ = some (.int .i64 e.numb) := ck 2 (by decide)
      have c3 : wq.cell? ⟨g, k * 8 + 3, none⟩ = some (.string (bs e.meth)) := ck 3 (by decide)
      have c4 : wq.cell? ⟨g, k * 8 + 4, none⟩ = some (.string (bs e.tgt)) := ck 4 (by decide)
      have c5 : wq.cell? ⟨g, k * 8 + 5, none⟩ = some (.int .i64 e.stat) := ck 5 (by decide)
      have c6 : wq.cell? ⟨g, k * 8 + 6, none⟩ = some (.int .i64 e.byts) := ck 6 (by decide)
      have c7 : wq.cell? ⟨g, k * 8 + 7, none⟩ = some (.int .i64 e.tick) := ck 7 (by decide)
      obtain ⟨hn, _, _, _⟩ := rightE_facts HX.out.right
      obtain ⟨_, _, n5, _, n6, n7⟩ := hn
      have hby : e.byts ≤ 9223372036854775807 := HX.out.ints.2.2.2.2.2
      obtain ⟨x4, hx4⟩ := name_it e.stat
      obtain ⟨x5, hx5⟩ := name_it e.byts
      rw [hx4.out] at c5 n6 n7
      rw [hx5.out] at c6 n5 hby
      have tb := hT.out.tb
      rw [hlk] at tb
      obtain ⟨Bv, hBv⟩ := name_it (bytesL acc)
      rw [hBv.out] at tb hbd
      have k1 := clsL_le 1 acc
      have k2 := clsL_le 2 acc
      have k3 := clsL_le 3 acc
      have k4 := clsL_le 4 acc
      have k5 := clsL_le 5 acc
      rw [hlk] at k1 k2 k3 k4 k5
      obtain ⟨a1, ha1⟩ := name_it (clsL 1 acc)
      obtain ⟨a2, ha2⟩ := name_it (clsL 2 acc)
      obtain ⟨a3, ha3⟩ := name_it (clsL 3 acc)
      obtain ⟨a4, ha4⟩ := name_it (clsL 4 acc)
      obtain ⟨a5, ha5⟩ := name_it (clsL 5 acc)
      rw [ha1.out, ha2.out, ha3.out, ha4.out, ha5.out] at tb
      rw [ha1.out] at k1
      rw [ha2.out] at k2
      rw [ha3.out] at k3
      rw [ha4.out] at k4
      rw [ha5.out] at k5
      have TBA := tb.alloc (.cells #[.string (bs e.name), .int .i64 e.conn, .int .i64 e.numb, .string (bs e.meth), .string (bs e.tgt), .int .i64 x4, .int .i64 x5, .int .i64 e.tick] tE)
      unfold totC at TBA
      have hne1 : ¬ wq.heap.size = w.heap.size + 1 := by have := tb.lt; omega
      have hne2 : ¬ w.heap.size + 1 = wq.heap.size := fun h => hne1 h.symm
      have t0 : (wq.alloc (.cells #[.string (bs e.name), .int .i64 e.conn, .int .i64 e.numb, .string (bs e.meth), .string (bs e.tgt), .int .i64 x4, .int .i64 x5, .int .i64 e.tick] tE)).cell? ⟨w.heap.size + 1, 0, none⟩ = some (.int .i64 (k : Nat)) := TBA.cell 0
      have y0 : (wq.alloc (.cells #[.string (bs e.name), .int .i64 e.conn, .int .i64 e.numb, .string (bs e.meth), .string (bs e.tgt), .int .i64 x4, .int .i64 x5, .int .i64 e.tick] tE)).frozen? ⟨w.heap.size + 1, 0, none⟩ = false := TBA.frozen 0
      have t1 : (wq.alloc (.cells #[.string (bs e.name), .int .i64 e.conn, .int .i64 e.numb, .string (bs e.meth), .string (bs e.tgt), .int .i64 x4, .int .i64 x5, .int .i64 e.tick] tE)).cell? ⟨w.heap.size + 1, 1, none⟩ = some (.int .i64 Bv) := TBA.cell 1
      have y1 : (wq.alloc (.cells #[.string (bs e.name), .int .i64 e.conn, .int .i64 e.numb, .string (bs e.meth), .string (bs e.tgt), .int .i64 x4, .int .i64 x5, .int .i64 e.tick] tE)).frozen? ⟨w.heap.size + 1, 1, none⟩ = false := TBA.frozen 1
      have t2 : (wq.alloc (.cells #[.string (bs e.name), .int .i64 e.conn, .int .i64 e.numb, .string (bs e.meth), .string (bs e.tgt), .int .i64 x4, .int .i64 x5, .int .i64 e.tick] tE)).cell? ⟨w.heap.size + 1, 2, none⟩ = some (.int .i64 a1) := TBA.cell 2
      have y2 : (wq.alloc (.cells #[.string (bs e.name), .int .i64 e.conn, .int .i64 e.numb, .string (bs e.meth), .string (bs e.tgt), .int .i64 x4, .int .i64 x5, .int .i64 e.tick] tE)).frozen? ⟨w.heap.size + 1, 2, none⟩ = false := TBA.frozen 2
      have t3 : (wq.alloc (.cells #[.string (bs e.name), .int .i64 e.conn, .int .i64 e.numb, .string (bs e.meth), .string (bs e.tgt), .int .i64 x4, .int .i64 x5, .int .i64 e.tick] tE)).cell? ⟨w.heap.size + 1, 3, none⟩ = some (.int .i64 a2) := TBA.cell 3
      have y3 : (wq.alloc (.cells #[.string (bs e.name), .int .i64 e.conn, .int .i64 e.numb, .string (bs e.meth), .string (bs e.tgt), .int .i64 x4, .int .i64 x5, .int .i64 e.tick] tE)).frozen? ⟨w.heap.size + 1, 3, none⟩ = false := TBA.frozen 3
      have t4 : (wq.alloc (.cells #[.string (bs e.name), .int .i64 e.conn, .int .i64 e.numb, .string (bs e.meth), .string (bs e.tgt), .int .i64 x4, .int .i64 x5, .int .i64 e.tick] tE)).cell? ⟨w.heap.size + 1, 4, none⟩ = some (.int .i64 a3) := TBA.cell 4
      have y4 : (wq.alloc (.cells #[.string (bs e.name), .int .i64 e.conn, .int .i64 e.numb, .string (bs e.meth), .string (bs e.tgt), .int .i64 x4, .int .i64 x5, .int .i64 e.tick] tE)).frozen? ⟨w.heap.size + 1, 4, none⟩ = false := TBA.frozen 4
      have t5 : (wq.alloc (.cells #[.string (bs e.name), .int .i64 e.conn, .int .i64 e.numb, .string (bs e.meth), .string (bs e.tgt), .int .i64 x4, .int .i64 x5, .int .i64 e.tick] tE)).cell? ⟨w.heap.size + 1, 5, none⟩ = some (.int .i64 a4) := TBA.cell 5
      have y5 : (wq.alloc (.cells #[.string (bs e.name), .int .i64 e.conn, .int .i64 e.numb, .string (bs e.meth), .string (bs e.tgt), .int .i64 x4, .int .i64 x5, .int .i64 e.tick] tE)).frozen? ⟨w.heap.size + 1, 5, none⟩ = false := TBA.frozen 5
      have t6 : (wq.alloc (.cells #[.string (bs e.name), .int .i64 e.conn, .int .i64 e.numb, .string (bs e.meth), .string (bs e.tgt), .int .i64 x4, .int .i64 x5, .int .i64 e.tick] tE)).cell? ⟨w.heap.size + 1, 6, none⟩ = some (.int .i64 a5) := TBA.cell 6
      have y6 : (wq.alloc (.cells #[.string (bs e.name), .int .i64 e.conn, .int .i64 e.numb, .string (bs e.meth), .string (bs e.tgt), .int .i64 x4, .int .i64 x5, .int .i64 e.tick] tE)).frozen? ⟨w.heap.size + 1, 6, none⟩ = false := TBA.frozen 6
      have t7 : (wq.alloc (.cells #[.string (bs e.name), .int .i64 e.conn, .int .i64 e.numb, .string (bs e.meth), .string (bs e.tgt), .int .i64 x4, .int .i64 x5, .int .i64 e.tick] tE)).cell? ⟨w.heap.size + 1, 7, none⟩ = some (.int .i64 0) := TBA.cell 7
      have y7 : (wq.alloc (.cells #[.string (bs e.name), .int .i64 e.conn, .int .i64 e.numb, .string (bs e.meth), .string (bs e.tgt), .int .i64 x4, .int .i64 x5, .int .i64 e.tick] tE)).frozen? ⟨w.heap.size + 1, 7, none⟩ = false := TBA.frozen 7
      have t8 : (wq.alloc (.cells #[.string (bs e.name), .int .i64 e.conn, .int .i64 e.numb, .string (bs e.meth), .string (bs e.tgt), .int .i64 x4, .int .i64 x5, .int .i64 e.tick] tE)).cell? ⟨w.heap.size + 1, 8, none⟩ = some (.int .i64 0) := TBA.cell 8
      have y8 : (wq.alloc (.cells #[.string (bs e.name), .int .i64 e.conn, .int .i64 e.numb, .string (bs e.meth), .string (bs e.tgt), .int .i64 x4, .int .i64 x5, .int .i64 e.tick] tE)).frozen? ⟨w.heap.size + 1, 8, none⟩ = false := TBA.frozen 8
      replace TBA := Lib.hid TBA
      clear tb ck hlk
      have hle1 := cntIn_le (namesL acc) e.name
      have hle2 := cntIn_le (pathsL acc) (pathL e.tgt)
      rw [show (namesL acc).length = k from by unfold namesL; rw [List.length_map]; exact HLK.out] at hle1
      rw [show (pathsL acc).length = k from by unfold pathsL; rw [List.length_map]; exact HLK.out] at hle2
      obtain ⟨n1, hn1⟩ := name_it (cntIn (cntF (namesL acc)) e.name)
      obtain ⟨n2, hn2⟩ := name_it (cntIn (cntF (pathsL acc)) (pathL e.tgt))
      rw [hn1.out] at hle1
      rw [hn2.out] at hle2
      obtain ⟨g1, g2⟩ := hle1
      obtain ⟨g3, g4⟩ := hle2
      have HC1 := Lib.hid (cnt_at (namesL acc) e.name hn1.out)
      have HC2 := Lib.hid (cnt_at (pathsL acc) (pathL e.tgt) hn2.out)
      have HP1 := Lib.hid (cnt_put (namesL acc) e.name hn1.out)
      have HP2 := Lib.hid (cnt_put (pathsL acc) (pathL e.tgt) hn2.out)
      have HK1 := Lib.hid (keyB e.name (by have := HX.out.n1; omega))
      have HK2 := Lib.hid (keyB (pathL e.tgt) (by have := HX.out.n3; have := path_le e.tgt; omega))
      have HAK := Lib.hid (show acc.length < maxLen from by rw [HLK.out]; unfold maxLen; omega)
      have MA := Lib.hid (hT.out.m1.alloc (.cells #[.string (bs e.name), .int .i64 e.conn, .int .i64 e.numb, .string (bs e.meth), .string (bs e.tgt), .int .i64 x4, .int .i64 x5, .int .i64 e.tick] tE))
      have MB := Lib.hid (hT.out.m2.alloc (.cells #[.string (bs e.name), .int .i64 e.conn, .int .i64 e.numb, .string (bs e.meth), .string (bs e.tgt), .int .i64 x4, .int .i64 x5, .int .i64 e.tick] tE))
      have EA := Lib.hid (Blk.new wq tE #[.string (bs e.name), .int .i64 e.conn, .int .i64 e.numb, .string (bs e.meth), .string (bs e.tgt), .int .i64 x4, .int .i64 x5, .int .i64 e.tick])
      have szq : Hid (w.heap.size + 4 ≤ wq.heap.size) := Nat.le_trans S2.out hT.out.kp.size
      have HBY : Hid (bytesL (acc ++ [e]) = Bv + min x5 (9223372036854775807 - Bv)) := by unfold Hid; rw [bytesL_snoc, hBv.out, hx5.out]; split <;> omega
      have HLN : Hid ((((acc ++ [e]).length : Nat) : Int) = (k : Int) + 1) := by unfold Hid; rw [List.length_append, HLK.out]; simp
      have G1 := clsL_snoc 1 acc e
      have G2 := clsL_snoc 2 acc e
      have G3 := clsL_snoc 3 acc e
      have G4 := clsL_snoc 4 acc e
      have G5 := clsL_snoc 5 acc e
      rw [hx4.out] at G1 G2 G3 G4 G5
      rw [ha1.out] at G1
      rw [ha2.out] at G2
      rw [ha3.out] at G3
      rw [ha4.out] at G4
      rw [ha5.out] at G5
      replace G1 := Lib.hid G1
      replace G2 := Lib.hid G2
      replace G3 := Lib.hid G3
      replace G4 := Lib.hid G4
      replace G5 := Lib.hid G5
      rcases (show x4 / 100 = 1 ∨ x4 / 100 = 2 ∨ x4 / 100 = 3 ∨ x4 / 100 = 4 ∨ x4 / 100 = 5 by omega) with hq | hq | hq | hq | hq
      all_goals
        have HQ := Lib.hid hq
        go_wp2_with (first
          | (at_lookup; refine wpList_lookup_own_int _ rfl _ _ 110 rfl 9 3 .i64 lawS Tryz.underlying110 Tryz.underlying3 (zeroI _) (w.heap.size + 2) acc.length (mapC (namesL acc)) rfl (((MA.out.setCell (by dsimp only; omega) _).setCell (by dsimp only; omega) _).setCell (by dsimp only; omega) _) _ _ rfl HK1.out ?_; intro c hat hwc; rw [HC1.out c hat]; clear hat hwc)
          | (at_mapUpdate; go_loud (
                refine wpList_mapUpdate_own _ rfl _ _ _ 110 rfl 9 3 lawS Tryz.underlying110 _ (w.heap.size + 2) acc.length (mapC (namesL acc)) rfl (((MA.out.setCell (by dsimp only; omega) _).setCell (by dsimp only; omega) _).setCell (by dsimp only; omega) _) HAK.out _ _ _ rfl rfl HK1.out (.lit (.int .i64 (n1 + 1))) [] (plainElem_int Tryz.underlying3 (by go_wf)) ?_; intro w1 hown1 hgrow1;
                have x1 : w1.cell? ⟨wq.heap.size, 4, none⟩ = some (.string (bs e.tgt)) := (blk_grown hgrow1 (by have := szq.out; omega) (blk_put (by have := szq.out; dsimp only; omega) (blk_put (by have := szq.out; dsimp only; omega) (blk_put (by have := szq.out; dsimp only; omega) EA.out)))).cell 4;
                rw [HP1.out] at hown1;
                have OWN1 := Lib.hid hown1;
                have TB1 := Lib.hid (blk_grown hgrow1 (by have := szq.out; omega) (Blk.set (Blk.set (Blk.set TBA.out 0 (.int .i64 (k + 1))) 1 (.int .i64 (Bv + min x5 (9223372036854775807 - Bv)))) _ _));
                have OWN2 := Lib.hid ((((MB.out.setCell (by have := szq.out; dsimp only; omega) _).setCell (by have := szq.out; dsimp only; omega) _).setCell (by have := szq.out; dsimp only; omega) _).kept hgrow1 (by simp));
                have KP1 : Hid (Keeps (setT w) wq w1) := (((((Keeps.of ((Below.refl wq.heap.size wq).alloc (Nat.le_refl _) _) (Nat.le_refl _)).trans (Keeps.set (Or.inl rfl) 0 _ _)).trans (Keeps.set (Or.inl rfl) 1 _ _)).trans (Keeps.set (Or.inl rfl) _ _ _)).trans (keeps_grown hgrow1 (Or.inr (Or.inl rfl))));clear hown1 hgrow1))
          | fail)
        have EZ1 := Lib.hid (HZ.out.next (DW.out.trans (KP1.out.below (fun i hi h => by unfold setT at h; omega) (by have := szq.out; omega))))
        refine (path_any (bs e.tgt) w1 EZ1.out (by rw [size_bs]; have := HX.out.n3; omega)).mono ?_; rintro x w5 ⟨hx, b5⟩
        rw [L_bs] at hx
        subst hx
        have OWN5 := Lib.hid (OWN2.out.kept (grown_of b5) (by simp))
        have M15 := Lib.hid (OWN1.out.kept (grown_of b5) (by simp))
        have TB5 := Lib.hid (TB1.out.below b5 TB1.out.lt)
        have KP5 : Hid (Keeps (setT w) wq w5) := KP1.out.trans (Keeps.of b5 (Nat.le_refl _))
        clear b5 TB1 OWN1 OWN2 KP1 EZ1 x1 MA MB HP1 HC1 HK1
        go_wp2_with (first
          | (at_lookup; refine wpList_lookup_own_int _ rfl _ _ 110 rfl 9 3 .i64 lawS Tryz.underlying110 Tryz.underlying3 (zeroI _) (w.heap.size + 3) acc.length (mapC (pathsL acc)) rfl OWN5.out _ _ rfl HK2.out ?_; intro c hat hwc; rw [HC2.out c hat]; clear hat hwc)
          | (at_mapUpdate; go_loud (
                refine wpList_mapUpdate_own _ rfl _ _ _ 110 rfl 9 3 lawS Tryz.underlying110 _ (w.heap.size + 3) acc.length (mapC (pathsL acc)) rfl OWN5.out HAK.out _ _ _ rfl rfl HK2.out (.lit (.int .i64 (n2 + 1))) [] (plainElem_int Tryz.underlying3 (by go_wf)) ?_; intro w6 hown6 hgrow6;
                rw [HP2.out] at hown6;
                have M26 := Lib.hid hown6;
                have M16 := Lib.hid (M15.out.kept hgrow6 (by simp));
                have TB6 := Lib.hid (blk_grown hgrow6 (by omega) TB5.out);
                have KP6 : Hid (Keeps (setT w) wq w6) := KP5.out.trans (keeps_grown hgrow6 (Or.inr (Or.inr rfl)));
                clear hown6 hgrow6))
          | fail)
        have g1 := G1.out
        have g2 := G2.out
        have g3 := G3.out
        have g4 := G4.out
        have g5 := G5.out
        rw [HQ.out] at g1 g2 g3 g4 g5
        simp at g1 g2 g3 g4 g5
        refine ⟨⟨k + 1, hlt, by simp, ?_⟩, by simp [intOf]; omega⟩
        rw [HTK.out]
        refine ⟨?_, hT.out.box.keeps KP6.out (by unfold setT; omega), ?_, ?_, hT.out.kp.trans KP6.out⟩
        · rw [HLN.out, HBY.out, g1, g2, g3, g4, g5]
          exact TB6.out
        · rw [List.length_append]
          unfold namesL at M16 ⊢
          rw [List.map_append]
          exact M16.out
        · rw [List.length_append]
          unfold pathsL at M26 ⊢
          rw [List.map_append]
          exact M26.out
    · have hkl : k = l.length := by omega
      subst hkl
      rw [List.take_length] at hT
      have tb := hT.out.tb
      have bx := hT.out.box
      have MZ1 := Lib.hid hT.out.m1
      have MZ2 := Lib.hid hT.out.m2
      have SZ1 := Lib.hid (mapC_facts (namesL l)).2.2.2
      have SZ2 := Lib.hid (mapC_facts (pathsL l)).2.2.2
      obtain ⟨Bv, hBv⟩ := name_it (bytesL l)
      obtain ⟨a1, ha1⟩ := name_it (clsL 1 l)
      obtain ⟨a2, ha2⟩ := name_it (clsL 2 l)
      obtain ⟨a3, ha3⟩ := name_it (clsL 3 l)
      obtain ⟨a4, ha4⟩ := name_it (clsL 4 l)
      obtain ⟨a5, ha5⟩ := name_it (clsL 5 l)
      rw [hBv.out, ha1.out, ha2.out, ha3.out, ha4.out, ha5.out] at tb
      unfold totC at tb
      have hnn : ¬ w.heap.size = w.heap.size + 1 := by omega
      have t0 : wq.cell? ⟨w.heap.size + 1, 0, none⟩ = some (.int .i64 (l.length : Nat)) := tb.cell 0
      have y0 : wq.frozen? ⟨w.heap.size + 1, 0, none⟩ = false := tb.frozen 0
      have b0 : wq.cell? ⟨w.heap.size, 0, none⟩ = some (.int .i64 0) := bx.cell 0
      have f0 : wq.frozen? ⟨w.heap.size, 0, none⟩ = false := bx.frozen 0
      have t1 : wq.cell? ⟨w.heap.size + 1, 1, none⟩ = some (.int .i64 Bv) := tb.cell 1
      have y1 : wq.frozen? ⟨w.heap.size + 1, 1, none⟩ = false := tb.frozen 1
      have b1 : wq.cell? ⟨w.heap.size, 1, none⟩ = some (.int .i64 0) := bx.cell 1
      have f1 : wq.frozen? ⟨w.heap.size, 1, none⟩ = false := bx.frozen 1
      have t2 : wq.cell? ⟨w.heap.size + 1, 2, none⟩ = some (.int .i64 a1) := tb.cell 2
      have y2 : wq.frozen? ⟨w.heap.size + 1, 2, none⟩ = false := tb.frozen 2
      have b2 : wq.cell? ⟨w.heap.size, 2, none⟩ = some (.int .i64 0) := bx.cell 2
      have f2 : wq.frozen? ⟨w.heap.size, 2, none⟩ = false := bx.frozen 2
      have t3 : wq.cell? ⟨w.heap.size + 1, 3, none⟩ = some (.int .i64 a2) := tb.cell 3
      have y3 : wq.frozen? ⟨w.heap.size + 1, 3, none⟩ = false := tb.frozen 3
      have b3 : wq.cell? ⟨w.heap.size, 3, none⟩ = some (.int .i64 0) := bx.cell 3
      have f3 : wq.frozen? ⟨w.heap.size, 3, none⟩ = false := bx.frozen 3
      have t4 : wq.cell? ⟨w.heap.size + 1, 4, none⟩ = some (.int .i64 a3) := tb.cell 4
      have y4 : wq.frozen? ⟨w.heap.size + 1, 4, none⟩ = false := tb.frozen 4
      have b4 : wq.cell? ⟨w.heap.size, 4, none⟩ = some (.int .i64 0) := bx.cell 4
      have f4 : wq.frozen? ⟨w.heap.size, 4, none⟩ = false := bx.frozen 4
      have t5 : wq.cell? ⟨w.heap.size + 1, 5, none⟩ = some (.int .i64 a4) := tb.cell 5
      have y5 : wq.frozen? ⟨w.heap.size + 1, 5, none⟩ = false := tb.frozen 5
      have b5 : wq.cell? ⟨w.heap.size, 5, none⟩ = some (.int .i64 0) := bx.cell 5
      have f5 : wq.frozen? ⟨w.heap.size, 5, none⟩ = false := bx.frozen 5
      have t6 : wq.cell? ⟨w.heap.size + 1, 6, none⟩ = some (.int .i64 a5) := tb.cell 6
      have y6 : wq.frozen? ⟨w.heap.size + 1, 6, none⟩ = false := tb.frozen 6
      have b6 : wq.cell? ⟨w.heap.size, 6, none⟩ = some (.int .i64 0) := bx.cell 6
      have f6 : wq.frozen? ⟨w.heap.size, 6, none⟩ = false := bx.frozen 6
      have t7 : wq.cell? ⟨w.heap.size + 1, 7, none⟩ = some (.int .i64 0) := tb.cell 7
      have y7 : wq.frozen? ⟨w.heap.size + 1, 7, none⟩ = false := tb.frozen 7
      have b7 : wq.cell? ⟨w.heap.size, 7, none⟩ = some (.int .i64 0) := bx.cell 7
      have f7 : wq.frozen? ⟨w.heap.size, 7, none⟩ = false := bx.frozen 7
      have t8 : wq.cell? ⟨w.heap.size + 1, 8, none⟩ = some (.int .i64 0) := tb.cell 8
      have y8 : wq.frozen? ⟨w.heap.size + 1, 8, none⟩ = false := tb.frozen 8
      have b8 : wq.cell? ⟨w.heap.size, 8, none⟩ = some (.int .i64 0) := bx.cell 8
      have f8 : wq.frozen? ⟨w.heap.size, 8, none⟩ = false := bx.frozen 8
      have BG := Blk.set (Blk.set (Blk.set (Blk.set (Blk.set (Blk.set (Blk.set (Blk.set (Blk.set (blk_put (a := ⟨w.heap.size + 1, 8, none⟩) (v := .int .i64 ((cntF (pathsL l)).length : Nat)) (by dsimp only; omega) (blk_put (a := ⟨w.heap.size + 1, 7, none⟩) (v := .int .i64 ((cntF (namesL l)).length : Nat)) (by dsimp only; omega) bx)) 0 (.int .i64 (l.length : Nat))) 1 (.int .i64 Bv)) 2 (.int .i64 a1)) 3 (.int .i64 a2)) 4 (.int .i64 a3)) 5 (.int .i64 a4)) 6 (.int .i64 a5)) 7 (.int .i64 ((cntF (namesL l)).length : Nat))) 8 (.int .i64 ((cntF (pathsL l)).length : Nat))
      have BF : Hid (Blk _ w.heap.size tT (totC (l.length : Nat) Bv a1 a2 a3 a4 a5 ((cntF (namesL l)).length : Nat) ((cntF (pathsL l)).length : Nat))) := BG
      clear tb bx BG
      go_wp2_with (first
          | (at_len; refine wpList_len_own _ rfl _ 110 rfl 9 3 Tryz.underlying110 _ (w.heap.size + 2) l.length (mapC (namesL l)) rfl MZ1.out ?_; rw [SZ1.out])
          | (at_len; refine wpList_len_own _ rfl _ 110 rfl 9 3 Tryz.underlying110 _ (w.heap.size + 3) l.length (mapC (pathsL l)) rfl MZ2.out ?_; rw [SZ2.out])
          | fail)
      refine bodyPost_ret (v := .agg (totL l)) ?_ rfl ⟨rfl, ?_⟩
      · clear t0 t1 t2 t3 t4 t5 t6 t7 t8 y0 y1 y2 y3 y4 y5 y6 y7 y8 b0 b1 b2 b3 b4 b5 b6 b7 b8 f0 f1 f2 f3 f4 f5 f6 f7 f8
        generalize World.setCell _ _ _ = W9 at BF ⊢
        have r0 : W9.cell? ⟨w.heap.size, 0, none⟩ = some (.int .i64 (l.length : Nat)) := BF.out.cell 0
        have r1 : W9.cell? ⟨w.heap.size, 1, none⟩ = some (.int .i64 Bv) := BF.out.cell 1
        have r2 : W9.cell? ⟨w.heap.size, 2, none⟩ = some (.int .i64 a1) := BF.out.cell 2
        have r3 : W9.cell? ⟨w.heap.size, 3, none⟩ = some (.int .i64 a2) := BF.out.cell 3
        have r4 : W9.cell? ⟨w.heap.size, 4, none⟩ = some (.int .i64 a3) := BF.out.cell 4
        have r5 : W9.cell? ⟨w.heap.size, 5, none⟩ = some (.int .i64 a4) := BF.out.cell 5
        have r6 : W9.cell? ⟨w.heap.size, 6, none⟩ = some (.int .i64 a5) := BF.out.cell 6
        have r7 : W9.cell? ⟨w.heap.size, 7, none⟩ = some (.int .i64 ((cntF (namesL l)).length : Nat)) := BF.out.cell 7
        have r8 : W9.cell? ⟨w.heap.size, 8, none⟩ = some (.int .i64 ((cntF (pathsL l)).length : Nat)) := BF.out.cell 8
        simp [results, Tryz.results24, go_sem, totL, totC, hBv.out, ha1.out, ha2.out, ha3.out, ha4.out, ha5.out, r0, r1, r2, r3, r4, r5, r6, r7, r8]
      · repeat (refine Below.setCell ?_ (by dsimp only; omega) _)
        exact DW.out
end Go.Proofs.YtfgaiopkclogmaaGreatDoor
