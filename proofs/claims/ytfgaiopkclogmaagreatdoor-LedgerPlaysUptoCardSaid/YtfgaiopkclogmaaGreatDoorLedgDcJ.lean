/- Has a book just these entries: the law's holds. -/
import Derived.Test.YtfgaiopkclogmaaGreatDoorMh
import Derived.Test.YtfgaiopkclogmaaGreatDoorLedgCjJ
import Derived.Test.YtfgaiopkclogmaaGreatDoorLedgLaJ
import Derived.Deep.RegionWith
import Derived.BigQuiet
import Derived.Shelf.SlSortCmp.QuietGrown
namespace Go.Proofs.YtfgaiopkclogmaaGreatDoor
open Go Go.RowKit Go.MuLone Go.Sort
set_option maxHeartbeats 8000000

set_option maxRecDepth 100000 in
theorem given_grow (e : En) (w : World) : Calls Tryz.prog 13 #[encE e] w fun x w' => x = .returned (encE e) ∧ ∃ q os', w' = grow (w.drewN q) os' := by
  obtain ⟨nm, hnm⟩ := name_it (bs e.name)
  obtain ⟨mt, hmt⟩ := name_it (bs e.meth)
  obtain ⟨tg, htg⟩ := name_it (bs e.tgt)
  obtain ⟨x1, hx1⟩ := name_it e.conn
  obtain ⟨x2, hx2⟩ := name_it e.numb
  obtain ⟨x3, hx3⟩ := name_it e.tick
  obtain ⟨x4, hx4⟩ := name_it e.stat
  obtain ⟨x5, hx5⟩ := name_it e.byts
  unfold encE
  rw [hnm.out, hmt.out, htg.out, hx1.out, hx2.out, hx3.out, hx4.out, hx5.out]
  go_enter Tryz.func13, Tryz.ntmps13
  go_wp2_with fail
  refine bodyPost_ret (v := .agg #[.string nm, .int .i64 x1, .int .i64 x2, .string mt, .string tg, .int .i64 x4, .int .i64 x5, .int .i64 x3]) (by simp [results, Tryz.results13, go_sem]) rfl ⟨rfl, 0, _, by rw [alloc_eq_grow, alloc_eq_grow, alloc_eq_grow, grow_grow, grow_grow]; rfl⟩
theorem below_grow_draw {B : Nat} {w W : World} (h : Below B w W) (hsz : B ≤ W.heap.size) (n : Nat) (os : Array Obj) : Below B w (grow (W.drewN n) os) := by
  refine h.trans ⟨rfl, rfl, rfl, ?_, fun i hi => ?_⟩
  · show W.heap.size ≤ (W.heap ++ os).size; simp
  · show (W.heap ++ os)[i]? = W.heap[i]?
    rw [Array.getElem?_append_left (Nat.lt_of_lt_of_le hi hsz)]

set_option maxRecDepth 100000 in
theorem holds_any (b : Nat) (v : Value) (l : List En) (vl : Value) (B : Nat) (w : World) (hZ : EnvZ w) (hB : Bok w b v l) (hA : w.ownsRow B tR 8 vl l.length (rowE l)) (hok : ∀ e ∈ l, okE e) :
    Calls Tryz.prog 15 #[.pointer (some ⟨b, 0, none⟩), vl] w fun e w' => e = .returned (.bool true) ∧ Below w.heap.size w w' := by
  have LEN := Lib.hid (len_any b v l w hB)
  have HN := Lib.hid (ent_book hB)
  have HL := Lib.hid hB.fit
  have HZ := Lib.hid hZ
  have HOK := Lib.hid hok
  have ROW := Lib.hid hA
  have hl : l.length ≤ 1073741824 := by have := HL.out; omega
  have hnl : ((l.length : Int) == (l.length : Int)) = true := by simp
  have mixed : Tryz.prog.follows .mixedOrders = true := by kernel_rfl
  have LT : Hid (∀ wx, Calls Tryz.prog 27 #[.agg (totL l), .agg (totL l)] wx fun e w' => e = .returned (.bool true) ∧ Below wx.heap.size wx w') := fun wx => ltotals_any _ _ _ _ _ _ _ _ _ wx
  have T1 := Lib.hid (fun wx h1 h2 => totals_any (.pointer (some ⟨b, 0, none⟩)) l wx h1 h2 HOK.out HL.out)
  have T2 := Lib.hid (fun wx h1 => rtotals_any vl l B wx h1 HOK.out HL.out)
  obtain ⟨T, hT⟩ := name_it (totL l)
  rw [hT.out] at LT T1 T2
  clear hT hZ hB hA hok
  obtain ⟨sp, cap, hvl⟩ := row_slice ROW.out
  rw [hvl] at ROW T2 ⊢
  clear hvl
  go_enter Tryz.func15, Tryz.ntmps15
  go_wp2_with fail
  refine LEN.out.mono ?_; rintro x w' ⟨rfl, rfl⟩
  clear LEN
  go_wp2_with fail
  refine (lines_ent _ l w HZ.out.l HN.out HOK.out HL.out).mono ?_; rintro x w1 ⟨⟨va, rfl, hva⟩, b1⟩
  have B1 := Lib.hid b1
  have VA := Lib.hid hva
  clear b1 hva
  go_wp2_with fail
  refine (llines_any _ l B w1 (row_kept ROW.out (fun g hg => B1.out.block g (World.ownsRow.lt ROW.out g hg).2)) HOK.out HL.out).mono ?_; rintro x w2 ⟨⟨vb, rfl, hvb⟩, b2⟩
  have VA2 : Hid (w2.ownsRow w.heap.size 9 1 va (l.map printL).length (strsT (l.map printL))) := by
    unfold Hid
    rw [List.length_map, ← lines_strs]
    exact row_kept VA.out (fun g hg => b2.block g (World.ownsRow.lt VA.out g hg).2)
  have VB2 : Hid (w2.ownsRow w1.heap.size 9 1 vb (l.map printL).length (strsT (l.map printL))) := by
    unfold Hid
    rw [List.length_map, ← lines_strs]
    exact hvb
  have B2 := Lib.hid (B1.out.trans (b2.mono B1.out.size))
  clear b2 hvb VA B1
  go_wp2_with fail
  refine (lsame_any va vb _ _ (l.map printL) w2 VA2.out VB2.out (by rw [List.length_map]; exact hl)).mono ?_; rintro x w3 ⟨rfl, b3⟩
  have B3 := Lib.hid (B2.out.trans (b3.mono B2.out.size))
  clear b3 VA2 VB2 B2
  go_wp2_with fail
  refine (T1.out w3 (HZ.out.next B3.out) (HN.out.next B3.out)).mono ?_; rintro x w4 ⟨rfl, b4⟩
  have B4 := Lib.hid (B3.out.trans (b4.mono B3.out.size))
  clear b4 B3 T1
  go_wp2_with fail
  refine (T2.out w4 (row_kept ROW.out (fun g hg => B4.out.block g (World.ownsRow.lt ROW.out g hg).2))).mono ?_; rintro x w5 ⟨rfl, b5⟩
  have B5 := Lib.hid (B4.out.trans (b5.mono B4.out.size))
  clear b5 B4 T2
  go_wp2_with fail
  refine (LT.out w5).mono ?_; rintro x w6 ⟨rfl, b6⟩
  have B6 := Lib.hid (B5.out.trans (b6.mono B5.out.size))
  clear b6 B5 LT
  go_wp2_with fail
  go_loopw [5] (fun i wr => ∃ n : Int, -1 ≤ n ∧ n ≤ l.length + 1 ∧ i = .int .i64 n ∧ Hid (Below w.heap.size w wr)) (fun i _ => (l.length + 1 - intOf i).toNat)
  case atStart => exact ⟨-1, by omega, by omega, rfl, B6⟩
  clear B6
  case round =>
    obtain ⟨n, hn1, hn2, rfl, hbr⟩ := hrel
    obtain ⟨wq, hwq⟩ : ∃ wq, wq = wr := ⟨wr, rfl⟩
    subst hwq
    by_cases hlt : n ≤ l.length
    · have EN := Lib.hid (entry_ent (.pointer (some ⟨b, 0, none⟩)) l n wq (HN.out.next hbr.out) hl)
      by_cases hin : 0 ≤ n ∧ n < l.length
      · obtain ⟨k, rfl⟩ : ∃ k : Nat, n = k := ⟨n.toNat, by omega⟩
        have hk : k < l.length := by omega
        rw [entV_yes hk] at EN
        have q0 : (0 : Int) ≤ (k : Int) := by omega
        have q1 : (k : Int) < (l.length : Int) := by omega
        obtain ⟨g, rfl⟩ : ∃ g, sp = some ⟨g, 0, none⟩ := by
          rcases ROW.out.2 with ⟨_, h0⟩ | ⟨g, cap', cur, h, _⟩
          · omega
          · injection h with h _ _; exact ⟨g, h⟩
        have hgl := (World.ownsRow.lt ROW.out g rfl).2
        have ck : ∀ i, i < 8 → w.cell? ⟨g, k * 8 + i, none⟩ = (cellsE l[k])[i]? := fun i hi => (ROW.out.cellAt (k * 8 + i) (by omega)).trans (rowE_get l k i hk hi)
        have GV := Lib.hid (given_grow l[k])
        obtain ⟨e, he⟩ := name_it l[k]
        rw [he.out] at ck EN GV
        clear he
        have CK := Lib.hid ck
        clear ck
        unfold encE at EN GV
        go_wp2_with fail
        all_goals (try (exfalso; omega))
        refine EN.out.mono ?_; rintro x w7 ⟨rfl, b7⟩
        have B7 := Lib.hid (hbr.out.trans (b7.mono hbr.out.size))
        clear b7 EN
        go_wp2_with fail
        have BX : Hid (Blk (w7.alloc (.cells #[.string (bs e.name), .int .i64 e.conn, .int .i64 e.numb, .string (bs e.meth), .string (bs e.tgt), .int .i64 e.stat, .int .i64 e.byts, .int .i64 e.tick] tE)) w7.heap.size tE (cellsE e)) := Blk.new w7 tE _
        have BB : Hid (Below w.heap.size w (w7.alloc (.cells #[.string (bs e.name), .int .i64 e.conn, .int .i64 e.numb, .string (bs e.meth), .string (bs e.tgt), .int .i64 e.stat, .int .i64 e.byts, .int .i64 e.tick] tE))) := B7.out.alloc B7.out.size _
        obtain ⟨m, hm⟩ := name_it w7.heap.size
        rw [hm.out] at BX
        rw [hm.out]
        obtain ⟨wB, hwB⟩ := name_it (w7.alloc (.cells #[.string (bs e.name), .int .i64 e.conn, .int .i64 e.numb, .string (bs e.meth), .string (bs e.tgt), .int .i64 e.stat, .int .i64 e.byts, .int .i64 e.tick] tE))
        rw [hwB.out] at BX BB
        rw [hwB.out]
        clear hwB hm B7
        have hml := BX.out.lt
        have hgB : g < wB.heap.size := Nat.lt_of_lt_of_le hgl BB.out.size
        have x0 : ∀ n os, (grow (wB.drewN n) os).cell? ⟨m, 0, none⟩ = some (.string (bs e.name)) := cell_grown (a := ⟨m, 0, none⟩) hml (BX.out.cell 0)
        have x1 : ∀ n os, (grow (wB.drewN n) os).cell? ⟨m, 1, none⟩ = some (.int .i64 e.conn) := cell_grown (a := ⟨m, 1, none⟩) hml (BX.out.cell 1)
        have x2 : ∀ n os, (grow (wB.drewN n) os).cell? ⟨m, 2, none⟩ = some (.int .i64 e.numb) := cell_grown (a := ⟨m, 2, none⟩) hml (BX.out.cell 2)
        have x3 : ∀ n os, (grow (wB.drewN n) os).cell? ⟨m, 3, none⟩ = some (.string (bs e.meth)) := cell_grown (a := ⟨m, 3, none⟩) hml (BX.out.cell 3)
        have x4 : ∀ n os, (grow (wB.drewN n) os).cell? ⟨m, 4, none⟩ = some (.string (bs e.tgt)) := cell_grown (a := ⟨m, 4, none⟩) hml (BX.out.cell 4)
        have x5 : ∀ n os, (grow (wB.drewN n) os).cell? ⟨m, 5, none⟩ = some (.int .i64 e.stat) := cell_grown (a := ⟨m, 5, none⟩) hml (BX.out.cell 5)
        have x6 : ∀ n os, (grow (wB.drewN n) os).cell? ⟨m, 6, none⟩ = some (.int .i64 e.byts) := cell_grown (a := ⟨m, 6, none⟩) hml (BX.out.cell 6)
        have x7 : ∀ n os, (grow (wB.drewN n) os).cell? ⟨m, 7, none⟩ = some (.int .i64 e.tick) := cell_grown (a := ⟨m, 7, none⟩) hml (BX.out.cell 7)
        have c0 : ∀ n os, (grow (wB.drewN n) os).cell? ⟨g, k * 8, none⟩ = some (.string (bs e.name)) := cell_grown (a := ⟨g, k * 8, none⟩) hgB ((BB.out.cell (p := ⟨g, k * 8, none⟩) hgl).trans (CK.out 0 (by decide)))
        have c1 : ∀ n os, (grow (wB.drewN n) os).cell? ⟨g, k * 8 + 1, none⟩ = some (.int .i64 e.conn) := cell_grown (a := ⟨g, k * 8 + 1, none⟩) hgB ((BB.out.cell (p := ⟨g, k * 8 + 1, none⟩) hgl).trans (CK.out 1 (by decide)))
        have c2 : ∀ n os, (grow (wB.drewN n) os).cell? ⟨g, k * 8 + 2, none⟩ = some (.int .i64 e.numb) := cell_grown (a := ⟨g, k * 8 + 2, none⟩) hgB ((BB.out.cell (p := ⟨g, k * 8 + 2, none⟩) hgl).trans (CK.out 2 (by decide)))
        have c3 : ∀ n os, (grow (wB.drewN n) os).cell? ⟨g, k * 8 + 3, none⟩ = some (.string (bs e.meth)) := cell_grown (a := ⟨g, k * 8 + 3, none⟩) hgB ((BB.out.cell (p := ⟨g, k * 8 + 3, none⟩) hgl).trans (CK.out 3 (by decide)))
        have c4 : ∀ n os, (grow (wB.drewN n) os).cell? ⟨g, k * 8 + 4, none⟩ = some (.string (bs e.tgt)) := cell_grown (a := ⟨g, k * 8 + 4, none⟩) hgB ((BB.out.cell (p := ⟨g, k * 8 + 4, none⟩) hgl).trans (CK.out 4 (by decide)))
        have c5 : ∀ n os, (grow (wB.drewN n) os).cell? ⟨g, k * 8 + 5, none⟩ = some (.int .i64 e.stat) := cell_grown (a := ⟨g, k * 8 + 5, none⟩) hgB ((BB.out.cell (p := ⟨g, k * 8 + 5, none⟩) hgl).trans (CK.out 5 (by decide)))
        have c6 : ∀ n os, (grow (wB.drewN n) os).cell? ⟨g, k * 8 + 6, none⟩ = some (.int .i64 e.byts) := cell_grown (a := ⟨g, k * 8 + 6, none⟩) hgB ((BB.out.cell (p := ⟨g, k * 8 + 6, none⟩) hgl).trans (CK.out 6 (by decide)))
        have c7 : ∀ n os, (grow (wB.drewN n) os).cell? ⟨g, k * 8 + 7, none⟩ = some (.int .i64 e.tick) := cell_grown (a := ⟨g, k * 8 + 7, none⟩) hgB ((BB.out.cell (p := ⟨g, k * 8 + 7, none⟩) hgl).trans (CK.out 7 (by decide)))
        refine wp_region_quiet_grown (by assumption) (by kernel_rfl) ?_
        repeat (go_big_quiet_step ((go_at_call 13; exact (GV.out _).grown_of)))
        refine wpQuiet_nil ?_
        intro _ hw'
        obtain ⟨⟨nq, osq⟩, hw''⟩ := hw'
        subst hw''
        have DE : Hid (Below w.heap.size w (grow (wB.drewN nq) osq)) := below_grow_draw BB.out BB.out.size nq osq
        obtain ⟨wE, hwE⟩ := name_it (grow (wB.drewN nq) osq)
        rw [hwE.out] at DE
        dsimp only
        rw [hwE.out]
        clear x0 x1 x2 x3 x4 x5 x6 x7 hwE
        clear c0 c1 c2 c3 c4 c5 c6 c7
        go_wp2_with fail
        go_roundw
        case rel => exact ⟨(k : Int) + 1, by omega, by omega, by go_num, DE⟩
        case measure => simp [intOf] <;> omega
      · rw [entV_no hin] at EN
        unfold noS at EN
        have hi : n < 0 ∨ n = l.length := by omega
        have hlt' := hlt
        clear hin
        rcases hi with hi | hi
        · have hd : decide ((0 : Int) ≤ n) = false := decide_eq_false (by omega)
          go_wp2_with fail
          all_goals (try (exfalso; omega))
          refine EN.out.mono ?_; rintro x w7 ⟨rfl, b7⟩
          have B7 := Lib.hid (hbr.out.trans (b7.mono hbr.out.size))
          clear b7 EN
          go_wp2_with fail
          have BX : Hid (Blk (w7.alloc (.cells #[.string ⟨#[]⟩, .int .i64 0, .int .i64 0, .string ⟨#[]⟩, .string ⟨#[]⟩, .int .i64 0, .int .i64 0, .int .i64 0] tE)) w7.heap.size tE #[.string ⟨#[]⟩, .int .i64 0, .int .i64 0, .string ⟨#[]⟩, .string ⟨#[]⟩, .int .i64 0, .int .i64 0, .int .i64 0]) := Blk.new w7 tE _
          have BB : Hid (Below w.heap.size w (w7.alloc (.cells #[.string ⟨#[]⟩, .int .i64 0, .int .i64 0, .string ⟨#[]⟩, .string ⟨#[]⟩, .int .i64 0, .int .i64 0, .int .i64 0] tE))) := B7.out.alloc B7.out.size _
          obtain ⟨m, hm⟩ := name_it w7.heap.size
          rw [hm.out] at BX
          rw [hm.out]
          obtain ⟨wB, hwB⟩ := name_it (w7.alloc (.cells #[.string ⟨#[]⟩, .int .i64 0, .int .i64 0, .string ⟨#[]⟩, .string ⟨#[]⟩, .int .i64 0, .int .i64 0, .int .i64 0] tE))
          rw [hwB.out] at BX BB
          rw [hwB.out]
          clear hwB hm B7
          have hml := BX.out.lt
          have x0 : wB.cell? ⟨m, 0, none⟩ = some (.string ⟨#[]⟩) := BX.out.cell 0
          have x1 : wB.cell? ⟨m, 1, none⟩ = some (.int .i64 0) := BX.out.cell 1
          have x2 : wB.cell? ⟨m, 2, none⟩ = some (.int .i64 0) := BX.out.cell 2
          have x3 : wB.cell? ⟨m, 3, none⟩ = some (.string ⟨#[]⟩) := BX.out.cell 3
          have x4 : wB.cell? ⟨m, 4, none⟩ = some (.string ⟨#[]⟩) := BX.out.cell 4
          have x5 : wB.cell? ⟨m, 5, none⟩ = some (.int .i64 0) := BX.out.cell 5
          have x6 : wB.cell? ⟨m, 6, none⟩ = some (.int .i64 0) := BX.out.cell 6
          have x7 : wB.cell? ⟨m, 7, none⟩ = some (.int .i64 0) := BX.out.cell 7
          go_quiet (fail)
          have DE : Hid (Below w.heap.size w (wB.drewN nq)) := below_drewN BB.out nq
          obtain ⟨wE, hwE⟩ := name_it (wB.drewN nq)
          rw [hwE.out] at DE
          rw [hwE.out]
          clear x0 x1 x2 x3 x4 x5 x6 x7 hwE
          go_wp2_with fail
          go_roundw
          case rel => exact ⟨n + 1, by omega, by omega, by go_num, DE⟩
          case measure => simp [intOf] <;> omega
        · subst hi
          have hd : decide ((l.length : Int) < (l.length : Int)) = false := decide_eq_false (by omega)
          have hd0 : decide ((0 : Int) ≤ (l.length : Int)) = true := decide_eq_true (by omega)
          go_wp2_with fail
          all_goals (try (exfalso; omega))
          refine EN.out.mono ?_; rintro x w7 ⟨rfl, b7⟩
          have B7 := Lib.hid (hbr.out.trans (b7.mono hbr.out.size))
          clear b7 EN
          go_wp2_with fail
          have BX : Hid (Blk (w7.alloc (.cells #[.string ⟨#[]⟩, .int .i64 0, .int .i64 0, .string ⟨#[]⟩, .string ⟨#[]⟩, .int .i64 0, .int .i64 0, .int .i64 0] tE)) w7.heap.size tE #[.string ⟨#[]⟩, .int .i64 0, .int .i64 0, .string ⟨#[]⟩, .string ⟨#[]⟩, .int .i64 0, .int .i64 0, .int .i64 0]) := Blk.new w7 tE _
          have BB : Hid (Below w.heap.size w (w7.alloc (.cells #[.string ⟨#[]⟩, .int .i64 0, .int .i64 0, .string ⟨#[]⟩, .string ⟨#[]⟩, .int .i64 0, .int .i64 0, .int .i64 0] tE))) := B7.out.alloc B7.out.size _
          obtain ⟨m, hm⟩ := name_it w7.heap.size
          rw [hm.out] at BX
          rw [hm.out]
          obtain ⟨wB, hwB⟩ := name_it (w7.alloc (.cells #[.string ⟨#[]⟩, .int .i64 0, .int .i64 0, .string ⟨#[]⟩, .string ⟨#[]⟩, .int .i64 0, .int .i64 0, .int .i64 0] tE))
          rw [hwB.out] at BX BB
          rw [hwB.out]
          clear hwB hm B7
          have hml := BX.out.lt
          have x0 : wB.cell? ⟨m, 0, none⟩ = some (.string ⟨#[]⟩) := BX.out.cell 0
          have x1 : wB.cell? ⟨m, 1, none⟩ = some (.int .i64 0) := BX.out.cell 1
          have x2 : wB.cell? ⟨m, 2, none⟩ = some (.int .i64 0) := BX.out.cell 2
          have x3 : wB.cell? ⟨m, 3, none⟩ = some (.string ⟨#[]⟩) := BX.out.cell 3
          have x4 : wB.cell? ⟨m, 4, none⟩ = some (.string ⟨#[]⟩) := BX.out.cell 4
          have x5 : wB.cell? ⟨m, 5, none⟩ = some (.int .i64 0) := BX.out.cell 5
          have x6 : wB.cell? ⟨m, 6, none⟩ = some (.int .i64 0) := BX.out.cell 6
          have x7 : wB.cell? ⟨m, 7, none⟩ = some (.int .i64 0) := BX.out.cell 7
          go_quiet (fail)
          have DE : Hid (Below w.heap.size w (wB.drewN nq)) := below_drewN BB.out nq
          obtain ⟨wE, hwE⟩ := name_it (wB.drewN nq)
          rw [hwE.out] at DE
          rw [hwE.out]
          clear x0 x1 x2 x3 x4 x5 x6 x7 hwE
          go_wp2_with fail
          go_roundw
          case rel => exact ⟨(l.length : Int) + 1, by omega, by omega, by go_num, DE⟩
          case measure => simp [intOf] <;> omega
    · have hd : decide (n ≤ (l.length : Int)) = false := decide_eq_false hlt
      go_wp2_with fail
      all_goals (try (exfalso; omega))
      go_ret
      exact ⟨rfl, hbr.out⟩
end Go.Proofs.YtfgaiopkclogmaaGreatDoor
