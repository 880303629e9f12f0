/- Contract of ledger: is an entry right. -/
import Derived.Test.YtfgaiopkclogmaaDoorLedgK
namespace Go.Proofs.YtfgaiopkclogmaaDoor
open Go Go.RowKit
set_option maxHeartbeats 4000000

def encE (e : En) : Value := .agg #[.string (bs e.name), .int .i64 e.conn, .int .i64 e.numb, .string (bs e.meth), .string (bs e.tgt), .int .i64 e.stat, .int .i64 e.byts, .int .i64 e.tick]
def numsE (e : En) : Bool := decide (0 ≤ e.conn ∧ 0 ≤ e.numb ∧ 0 ≤ e.byts ∧ 0 ≤ e.tick ∧ 100 ≤ e.stat ∧ e.stat ≤ 599)
set_option maxRecDepth 100000 in
theorem right_any (e : En) (w : World) (hE : EnvT w) (h1 : e.name.length ≤ 1073741824) (h2 : e.meth.length ≤ 1073741824) (h3 : e.tgt.length ≤ 1073741824) :
    Calls Tryd.prog 12 #[encE e] w fun x w' => x = .returned (.bool (rightE e)) ∧ Below w.heap.size w w' := by
  have HE := Lib.hid hE; clear hE
  have n1 := fun wx => allname_any (bs e.name) wx (by rw [size_bs]; exact h1)
  have n2 := fun wx hx => allsign_any (bs e.meth) wx hx (by rw [size_bs]; exact h2)
  have n3 := fun wx => alltgt_any (bs e.tgt) wx (by rw [size_bs]; exact h3)
  rw [L_bs] at n1 n2 n3
  have N1 := Lib.hid n1
  have N2 := Lib.hid n2
  have N3 := Lib.hid n3
  clear n1 n2 n3
  have hr : rightE e = (numsE e && ((e.name.all nameB && decide (1 ≤ e.name.length ∧ e.name.length ≤ 64)) && ((e.meth.all signB && decide (1 ≤ e.meth.length ∧ e.meth.length ≤ 24)) && (e.tgt.all tgtB && decide (1 ≤ e.tgt.length ∧ e.tgt.length ≤ 65536))))) := rfl
  rw [hr]
  obtain ⟨b1, hb1⟩ := name_it (e.name.all nameB && decide (1 ≤ e.name.length ∧ e.name.length ≤ 64))
  obtain ⟨b2, hb2⟩ := name_it (e.meth.all signB && decide (1 ≤ e.meth.length ∧ e.meth.length ≤ 24))
  obtain ⟨b3, hb3⟩ := name_it (e.tgt.all tgtB && decide (1 ≤ e.tgt.length ∧ e.tgt.length ≤ 65536))
  rw [hb1.out] at N1 ⊢
  rw [hb2.out] at N2 ⊢
  rw [hb3.out] at N3 ⊢
  clear hb1 hb2 hb3 hr
  unfold encE numsE
  obtain ⟨nm, hnm⟩ := name_it (bs e.name)
  obtain ⟨mt, hmt⟩ := name_it (bs e.meth)
  obtain ⟨tg, htg⟩ := name_it (bs e.tgt)
  rw [hnm.out] at N1 ⊢
  rw [hmt.out] at N2 ⊢
  rw [htg.out] at N3 ⊢
  clear hnm hmt htg h1 h2 h3
  obtain ⟨l1, l2, l3, x1, x2, x3, x4, x5⟩ := e
  simp only []
  by_cases hn : 0 ≤ x1 ∧ 0 ≤ x2 ∧ 0 ≤ x5 ∧ 0 ≤ x3 ∧ 100 ≤ x4 ∧ x4 ≤ 599
  · rw [decide_eq_true hn, Bool.true_and]
    obtain ⟨n1, n2, n3, n4, n5, n6⟩ := hn
    have hsz : (w.alloc (.cells #[.string nm, .int .i64 x1, .int .i64 x2, .string mt, .string tg, .int .i64 x4, .int .i64 x5, .int .i64 x3] 25)).heap.size = w.heap.size + 1 := Array.size_push ..
    have DB := Lib.hid (((Below.refl w.heap.size w).alloc (Nat.le_refl _) (.cells #[.string nm, .int .i64 x1, .int .i64 x2, .string mt, .string tg, .int .i64 x4, .int .i64 x5, .int .i64 x3] 25)).alloc (by rw [hsz]; omega) (.cells #[.int .i64 x1, .int .i64 x2, .string mt, .string tg, .int .i64 x4, .int .i64 x5, .int .i64 x3] 23))
    have m2 := World.cell?_alloc_mark (w.alloc (.cells #[.string nm, .int .i64 x1, .int .i64 x2, .string mt, .string tg, .int .i64 x4, .int .i64 x5, .int .i64 x3] 25)) #[.int .i64 x1, .int .i64 x2, .string mt, .string tg, .int .i64 x4, .int .i64 x5, .int .i64 x3] 23 (0, 0) 2
    have m3 := World.cell?_alloc_mark (w.alloc (.cells #[.string nm, .int .i64 x1, .int .i64 x2, .string mt, .string tg, .int .i64 x4, .int .i64 x5, .int .i64 x3] 25)) #[.int .i64 x1, .int .i64 x2, .string mt, .string tg, .int .i64 x4, .int .i64 x5, .int .i64 x3] 23 (0, 0) 3
    have hlt : w.heap.size + 1 < ((w.alloc (.cells #[.string nm, .int .i64 x1, .int .i64 x2, .string mt, .string tg, .int .i64 x4, .int .i64 x5, .int .i64 x3] 25)).alloc (.cells #[.int .i64 x1, .int .i64 x2, .string mt, .string tg, .int .i64 x4, .int .i64 x5, .int .i64 x3] 23)).heap.size := by
      have : ((w.alloc (.cells #[.string nm, .int .i64 x1, .int .i64 x2, .string mt, .string tg, .int .i64 x4, .int .i64 x5, .int .i64 x3] 25)).alloc (.cells #[.int .i64 x1, .int .i64 x2, .string mt, .string tg, .int .i64 x4, .int .i64 x5, .int .i64 x3] 23)).heap.size = (w.alloc (.cells #[.string nm, .int .i64 x1, .int .i64 x2, .string mt, .string tg, .int .i64 x4, .int .i64 x5, .int .i64 x3] 25)).heap.size + 1 := Array.size_push ..
      omega
    rw [hsz] at m2 m3
    have M2 : Hid (((w.alloc (.cells #[.string nm, .int .i64 x1, .int .i64 x2, .string mt, .string tg, .int .i64 x4, .int .i64 x5, .int .i64 x3] 25)).alloc (.cells #[.int .i64 x1, .int .i64 x2, .string mt, .string tg, .int .i64 x4, .int .i64 x5, .int .i64 x3] 23)).cell? ⟨w.heap.size + 1, 2, none⟩ = some (.string mt)) := m2
    have M3 : Hid (((w.alloc (.cells #[.string nm, .int .i64 x1, .int .i64 x2, .string mt, .string tg, .int .i64 x4, .int .i64 x5, .int .i64 x3] 25)).alloc (.cells #[.int .i64 x1, .int .i64 x2, .string mt, .string tg, .int .i64 x4, .int .i64 x5, .int .i64 x3] 23)).cell? ⟨w.heap.size + 1, 3, none⟩ = some (.string tg)) := m3
    have HLT := Lib.hid hlt
    clear m2 m3 hlt hsz
    go_enter Tryd.func12, Tryd.ntmps12
    go_wp2_with fail
    all_goals (try (exfalso; omega))
    refine (N1.out _).mono ?_; rintro x wa ⟨rfl, ba⟩
    have da := DB.out.trans (ba.mono DB.out.size)
    have M2a := (ba.cell (p := ⟨w.heap.size + 1, 2, none⟩) HLT.out).trans M2.out
    have M3a := Lib.hid ((ba.cell (p := ⟨w.heap.size + 1, 3, none⟩) HLT.out).trans M3.out)
    have lta := Lib.hid (Nat.lt_of_lt_of_le HLT.out ba.size)
    have HEa := Lib.hid (HE.out.next da)
    clear ba M2 M3 HLT DB
    cases b1 with
    | false =>
      go_wp2_with fail
      go_ret
      exact ⟨rfl, da⟩
    | true =>
      go_wp2_with fail
      refine (N2.out _ HEa.out).mono ?_; rintro x wb ⟨rfl, bb⟩
      have db := da.trans (bb.mono da.size)
      have M3b := (bb.cell (p := ⟨w.heap.size + 1, 3, none⟩) lta.out).trans M3a.out
      clear bb M2a M3a
      cases b2 with
      | false =>
        go_wp2_with fail
        go_ret
        exact ⟨rfl, db⟩
      | true =>
        go_wp2_with fail
        refine (N3.out _).mono ?_; rintro x wc ⟨rfl, bc⟩
        have dc := db.trans (bc.mono db.size)
        go_wp2_with fail
        go_ret
        cases b3 <;> exact ⟨rfl, dc⟩
  · rw [decide_eq_false hn, Bool.false_and]
    have hn2 : x1 < 0 ∨ (0 ≤ x1 ∧ x2 < 0) ∨ (0 ≤ x1 ∧ 0 ≤ x2 ∧ x5 < 0) ∨ (0 ≤ x1 ∧ 0 ≤ x2 ∧ 0 ≤ x5 ∧ x3 < 0) ∨ (0 ≤ x1 ∧ 0 ≤ x2 ∧ 0 ≤ x5 ∧ 0 ≤ x3 ∧ x4 < 100) ∨ (0 ≤ x1 ∧ 0 ≤ x2 ∧ 0 ≤ x5 ∧ 0 ≤ x3 ∧ 100 ≤ x4 ∧ 599 < x4) := by omega
    have hsz : (w.alloc (.cells #[.string nm, .int .i64 x1, .int .i64 x2, .string mt, .string tg, .int .i64 x4, .int .i64 x5, .int .i64 x3] 25)).heap.size = w.heap.size + 1 := Array.size_push ..
    have DB := Lib.hid (((Below.refl w.heap.size w).alloc (Nat.le_refl _) (.cells #[.string nm, .int .i64 x1, .int .i64 x2, .string mt, .string tg, .int .i64 x4, .int .i64 x5, .int .i64 x3] 25)).alloc (by rw [hsz]; omega) (.cells #[.int .i64 x1, .int .i64 x2, .string mt, .string tg, .int .i64 x4, .int .i64 x5, .int .i64 x3] 23))
    clear hn hsz N1 N2 N3
    rcases hn2 with h | ⟨h1, h⟩ | ⟨h1, h2, h⟩ | ⟨h1, h2, h3, h⟩ | ⟨h1, h2, h3, h4, h⟩ | ⟨h1, h2, h3, h4, h5, h⟩
    all_goals
      go_enter Tryd.func12, Tryd.ntmps12
      go_wp2_with fail
      all_goals (try (exfalso; omega))
      go_ret
      exact ⟨rfl, DB.out⟩
end Go.Proofs.YtfgaiopkclogmaaDoor
