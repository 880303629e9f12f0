/- Books of ledger: a book of the entries that are wanted. -/
import Derived.Test.YtfgaiopkclogmaaGreatDoorLedgCaJ
import Derived.Test.YtfgaiopkclogmaaGreatDoorLedgCdJ
namespace Go.Proofs.YtfgaiopkclogmaaGreatDoor
open Go Go.RowKit Go.MuLone
set_option maxHeartbeats 4000000

/-- a new book came out: it and its row lie behind B -/
def NewBook (B : Nat) (l : List En) (e : Ending) (w' : World) : Prop := ∃ b v, e = .returned (.pointer (some ⟨b, 0, none⟩)) ∧ Bok w' b v l ∧ B ≤ b ∧ ∀ g, v.ownBlock = some g → B ≤ g
theorem filter_snoc {α : Type} (p : α → Bool) (l : List α) (k : Nat) (h : k < l.length) : (l.take (k + 1)).filter p = if p l[k] = true then (l.take k).filter p ++ [l[k]] else (l.take k).filter p := by
  rw [List.take_succ_eq_append_getElem h, List.filter_append]
  by_cases hp : p l[k] = true
  · rw [if_pos hp]; simp [hp]
  · rw [if_neg hp]; simp [hp]

set_option maxRecDepth 100000 in
theorem only_any (pv : Value) (l : List En) (f : Fi) (w : World) (hZ : EnvZ w) (hE : Ent pv l w) (hok : ∀ e ∈ l, okE e) (hl : l.length ≤ 1000000) (hf : f.path.length ≤ 1048576) :
    Calls Tryz.prog 14 #[pv, encF f] w fun e w' => NewBook w.heap.size (l.filter fun e => wantB e f) e w' ∧ Below w.heap.size w w' := by
  have B0 := Lib.hid ((Below.refl w.heap.size w).alloc (Nat.le_refl _) (.cells (cellsF f) 40))
  have K0 := Lib.hid (Blk.new w 40 (cellsF f))
  have z0 : (w.alloc (.cells (cellsF f) 40)).heap.size = w.heap.size + 1 := Array.size_push ..
  have Z0 := Lib.hid z0
  have NB := Lib.hid (newBook_any (w.alloc (.cells (cellsF f) 40)) (by rw [z0]; have := hZ.l.env.n; omega))
  have HE := Lib.hid (fun W h => hE W h)
  have HZ := Lib.hid hZ
  have HOK := Lib.hid hok
  have HL := Lib.hid hl
  have WN := Lib.hid (fun e (he : e ∈ l) wx hx => wanted_any e f wx hx (hok e he).n3 hf)
  have hl2 : l.length ≤ 1073741824 := by omega
  clear z0 hE hZ hok hl hf
  unfold encF at WN ⊢
  have KF : Hid (cellsF f = #[.string (bs f.name), .string (bs f.meth), .string (bs f.path), .int .i64 f.least, .int .i64 f.most]) := rfl
  unfold cellsF at B0 K0 Z0 NB WN ⊢
  go_enter Tryz.func14, Tryz.ntmps14
  go_wp2_with fail
  refine NB.out.mono ?_; rintro x w1 ⟨rfl, hbk, b1⟩
  rw [Z0.out] at hbk
  rw [Z0.out]
  have B1 := Lib.hid (B0.out.trans (b1.mono B0.out.size))
  have BK1 := Lib.hid hbk
  have K1 := Lib.hid (K0.out.below b1 K0.out.lt)
  clear hbk b1 K0 B0 NB
  go_wp2_with fail
  refine (HE.out w1 B1.out).mono ?_; rintro x w2 ⟨⟨v2, rfl, hown⟩, b2⟩
  have ROW := Lib.hid hown
  have B2 := Lib.hid (B1.out.trans (b2.mono B1.out.size))
  have BK2 := Lib.hid (BK1.out.next b2)
  have K2 := Lib.hid (K1.out.below b2 K1.out.lt)
  have S1 := Lib.hid (show w.heap.size + 1 < w1.heap.size from BK1.out.blk.lt)
  clear hown b2 HE BK1 K1 B1 Z0
  obtain ⟨sp, cap, hv2⟩ := row_slice ROW.out
  subst hv2
  go_wp2_with fail
  go_loopw [12] (fun i wr => ∃ (k : Nat) (v : Value), k ≤ l.length ∧ i = .int .i64 k ∧ Hid (Bok wr (w.heap.size + 1) v ((l.take k).filter fun e => wantB e f)) ∧ Hid (∀ g, v.ownBlock = some g → w2.heap.size ≤ g) ∧ Hid (Keeps (fun i => i = w.heap.size + 1) w2 wr)) (fun i _ => l.length - (intOf i).toNat)
  case atStart => exact ⟨0, _, Nat.zero_le _, rfl, BK2, (fun g h => by cases h), Keeps.refl _ _⟩
  clear BK2
  case round =>
    obtain ⟨k, v, hk, rfl, hBk, hvo, hkp⟩ := hrel
    obtain ⟨wq, hwq⟩ : ∃ wq, wq = wr := ⟨wr, rfl⟩
    subst hwq
    have DW : Hid (Below w.heap.size w wq) := B2.out.trans (hkp.out.below (fun i hi h => by omega) B2.out.size)
    by_cases hlt : k < l.length
    · have q0 : (0 : Int) ≤ (k : Int) := by omega
      have q1 : (k : Int) < (l.length : Int) := by omega
      have hS1 := S1.out
      have ROWQ := Lib.hid (row_kept ROW.out (fun g hg => hkp.out.block g (World.ownsRow.lt ROW.out g hg).2 (by have := (World.ownsRow.lt ROW.out g hg).1; omega)))
      obtain ⟨g, rfl⟩ : ∃ g, sp = some ⟨g, 0, none⟩ := by
        rcases ROW.out.2 with ⟨_, h0⟩ | ⟨g, cap', cur, h, _⟩
        · omega
        · injection h with h _ _; exact ⟨g, h⟩
      have HM := Lib.hid (List.getElem_mem hlt)
      have HX := Lib.hid (HOK.out l[k] HM.out)
      have WNk := WN.out l[k] HM.out
      have ck : ∀ i, i < 8 → wq.cell? ⟨g, k * 8 + i, none⟩ = (cellsE l[k])[i]? := fun i hi => (ROWQ.out.cellAt (k * 8 + i) (by omega)).trans (rowE_get l k i hlt hi)
      have hfs := filter_snoc (fun e => wantB e f) l k hlt
      obtain ⟨e, he⟩ := name_it l[k]
      rw [he.out] at HX ck hfs WNk
      clear he
      have c0 : wq.cell? ⟨g, k * 8, none⟩ = some (.string (bs e.name)) := ck 0 (by decide)
      have c1 : wq.cell? ⟨g, k * 8 + 1, none⟩ = some (.int .i64 e.conn) := ck 1 (by decide)
      have c2 : wq.cell? ⟨g, k * 8 + 2, none⟩ = some (.int .i64 e.numb) := ck 2 (by decide)
      have c3 : wq.cell? ⟨g, k * 8 + 3, none⟩ = some (.string (bs e.meth)) := ck 3 (by decide)
      have c4 : wq.cell? ⟨g, k * 8 + 4, none⟩ = some (.string (bs e.tgt)) := ck 4 (by decide)
      have c5 : wq.cell? ⟨g, k * 8 + 5, none⟩ = some (.int .i64 e.stat) := ck 5 (by decide)
      have c6 : wq.cell? ⟨g, k * 8 + 6, none⟩ = some (.int .i64 e.byts) := ck 6 (by decide)
      have c7 : wq.cell? ⟨g, k * 8 + 7, none⟩ = some (.int .i64 e.tick) := ck 7 (by decide)
      have KQ := K2.out.keeps hkp.out (show ¬ w.heap.size = w.heap.size + 1 by omega)
      have hnq : ¬ w.heap.size = wq.heap.size := by have := KQ.lt; omega
      have f0 : (wq.alloc (.cells #[.string (bs e.name), .int .i64 e.conn, .int .i64 e.numb, .string (bs e.meth), .string (bs e.tgt), .int .i64 e.stat, .int .i64 e.byts, .int .i64 e.tick] tE)).cell? ⟨w.heap.size, 0, none⟩ = some (.string (bs f.name)) := (KQ.alloc _).cell 0
      have f1 : (wq.alloc (.cells #[.string (bs e.name), .int .i64 e.conn, .int .i64 e.numb, .string (bs e.meth), .string (bs e.tgt), .int .i64 e.stat, .int .i64 e.byts, .int .i64 e.tick] tE)).cell? ⟨w.heap.size, 1, none⟩ = some (.string (bs f.meth)) := (KQ.alloc _).cell 1
      have f2 : (wq.alloc (.cells #[.string (bs e.name), .int .i64 e.conn, .int .i64 e.numb, .string (bs e.meth), .string (bs e.tgt), .int .i64 e.stat, .int .i64 e.byts, .int .i64 e.tick] tE)).cell? ⟨w.heap.size, 2, none⟩ = some (.string (bs f.path)) := (KQ.alloc _).cell 2
      have f3 : (wq.alloc (.cells #[.string (bs e.name), .int .i64 e.conn, .int .i64 e.numb, .string (bs e.meth), .string (bs e.tgt), .int .i64 e.stat, .int .i64 e.byts, .int .i64 e.tick] tE)).cell? ⟨w.heap.size, 3, none⟩ = some (.int .i64 f.least) := (KQ.alloc _).cell 3
      have f4 : (wq.alloc (.cells #[.string (bs e.name), .int .i64 e.conn, .int .i64 e.numb, .string (bs e.meth), .string (bs e.tgt), .int .i64 e.stat, .int .i64 e.byts, .int .i64 e.tick] tE)).cell? ⟨w.heap.size, 4, none⟩ = some (.int .i64 f.most) := (KQ.alloc _).cell 4
      obtain ⟨acc, hacc⟩ := name_it ((l.take k).filter fun e => wantB e f)
      have hal : acc.length ≤ k := by rw [← hacc.out]; exact Nat.le_trans (List.length_filter_le _ _) (List.length_take_le _ _)
      rw [hacc.out] at hBk hfs
      have HAL := Lib.hid (show acc.length < 1000000 from by have := HL.out; omega)
      clear ck KQ hacc hal hS1
      have dA := Lib.hid ((Below.refl wq.heap.size wq).alloc (Nat.le_refl _) (.cells (cellsE e) tE))
      have mA := Lib.hid (Blk.new wq tE (cellsE e))
      have eA := Lib.hid (HZ.out.next (DW.out.trans (dA.out.mono DW.out.size)))
      have WNK := Lib.hid WNk
      clear WNk
      have HCE : Hid (cellsE e = #[.string (bs e.name), .int .i64 e.conn, .int .i64 e.numb, .string (bs e.meth), .string (bs e.tgt), .int .i64 e.stat, .int .i64 e.byts, .int .i64 e.tick]) := rfl
      unfold encE at WNK
      rw [HCE.out] at dA mA eA
      cases hw : wantB e f with
      | false =>
        rw [hw] at hfs WNK
        rw [if_neg (by decide)] at hfs
        have HFS := Lib.hid hfs
        clear hfs hw
        go_wp2_with fail
        all_goals (try (exfalso; omega))
        refine (WNK.out _ eA.out).mono ?_; rintro x w5 ⟨rfl, b5⟩
        have d5 := Lib.hid (dA.out.trans (b5.mono dA.out.size))
        have BK5 : Hid (Bok w5 (w.heap.size + 1) v ((l.take (k + 1)).filter fun e => wantB e f)) := by unfold Hid; rw [HFS.out]; exact hBk.out.next d5.out
        have KP5 : Hid (Keeps (fun i => i = w.heap.size + 1) w2 w5) := hkp.out.trans (Keeps.of d5.out (Nat.le_refl _))
        clear b5
        go_wp2_with fail
        go_roundw
        case rel => exact ⟨k + 1, v, by omega, by go_num, BK5, hvo, KP5⟩
        case measure => simp [intOf]; omega
      | true =>
        rw [hw] at hfs WNK
        rw [if_pos rfl] at hfs
        have HFS := Lib.hid hfs
        clear hfs hw
        go_wp2_with fail
        all_goals (try (exfalso; omega))
        refine (WNK.out _ eA.out).mono ?_; rintro x w5 ⟨rfl, b5⟩
        have d5 := Lib.hid (dA.out.trans (b5.mono dA.out.size))
        have M5 := Lib.hid (mA.out.below b5 mA.out.lt)
        obtain ⟨m, hm⟩ := name_it wq.heap.size
        rw [hm.out] at M5
        rw [hm.out]
        have k0 : w5.cell? ⟨m, 0, none⟩ = some (.string (bs e.name)) := M5.out.cell 0
        have k1 : w5.cell? ⟨m, 1, none⟩ = some (.int .i64 e.conn) := M5.out.cell 1
        have k2 : w5.cell? ⟨m, 2, none⟩ = some (.int .i64 e.numb) := M5.out.cell 2
        have k3 : w5.cell? ⟨m, 3, none⟩ = some (.string (bs e.meth)) := M5.out.cell 3
        have k4 : w5.cell? ⟨m, 4, none⟩ = some (.string (bs e.tgt)) := M5.out.cell 4
        have k5 : w5.cell? ⟨m, 5, none⟩ = some (.int .i64 e.stat) := M5.out.cell 5
        have k6 : w5.cell? ⟨m, 6, none⟩ = some (.int .i64 e.byts) := M5.out.cell 6
        have k7 : w5.cell? ⟨m, 7, none⟩ = some (.int .i64 e.tick) := M5.out.cell 7
        have E5 := Lib.hid (eA.out.next b5)
        have BK5 := Lib.hid (hBk.out.next d5.out)
        have ADD := Lib.hid (add_yes (w.heap.size + 1) v acc e w5 E5.out.l.env BK5.out HX.out.right HAL.out HX.out.n1 HX.out.n2 HX.out.n3)
        unfold visE at ADD
        clear b5 hm c0 c1 c2 c3 c4 c5 c6 c7 f0 f1 f2 f3 f4 dA mA eA hBk
        go_wp2_with fail
        refine ADD.out.mono ?_; rintro x w6 ⟨rfl, hadd⟩
        obtain ⟨v', hbk', hv', hkp'⟩ := hadd
        have BK6 : Hid (Bok w6 (w.heap.size + 1) v' ((l.take (k + 1)).filter fun e => wantB e f)) := by unfold Hid; rw [HFS.out]; exact hbk'
        have hs5 : w2.heap.size ≤ w5.heap.size := Nat.le_trans hkp.out.size d5.out.size
        have KP6 : Hid (Keeps (fun i => i = w.heap.size + 1) w2 w6) :=
          (hkp.out.trans (Keeps.of d5.out (Nat.le_refl _))).then hkp' (fun i hi h => by
            rcases h with h | h
            · exact h
            · exact absurd (hvo.out i h) (by omega))
        have VO6 : Hid (∀ g, v'.ownBlock = some g → w2.heap.size ≤ g) := by
          intro g' hg'
          rcases hv' with h | ⟨k', h, hge⟩
          · rw [h] at hg'; exact hvo.out g' hg'
          · rw [h] at hg'; injection hg' with hg'; omega
        clear hbk' hv' hkp' hs5 k0 k1 k2 k3 k4 k5 k6 k7
        go_wp2_with fail
        go_roundw
        case rel => exact ⟨k + 1, v', by omega, by go_num, BK6, VO6, KP6⟩
        case measure => simp [intOf]; omega
    · obtain rfl : k = l.length := by omega
      rw [List.take_length] at hBk
      go_wp2_with fail
      all_goals (try (exfalso; omega))
      go_ret
      have h2 := B2.out.size
      exact ⟨⟨_, v, rfl, hBk.out, by omega, fun g hg => Nat.le_trans h2 (hvo.out g hg)⟩, DW.out⟩
end Go.Proofs.YtfgaiopkclogmaaGreatDoor
