/- Books of ledger: all entries' lines. -/
import Derived.Test.YtfgaiopkclogmaaDoorLedgBc
import Derived.Test.YtfgaiopkclogmaaDoorOwn
namespace Go.Proofs.YtfgaiopkclogmaaDoor
open Go Go.RowKit Go.MuLone
set_option maxHeartbeats 4000000

theorem rowE_get : ∀ (l : List En) (k i : Nat) (h : k < l.length), i < 8 → (rowE l)[k * 8 + i]? = (cellsE l[k])[i]?
  | [], k, i, h, _ => by simp at h
  | e :: l, 0, i, _, hi => by
    rw [rowE_cons, Nat.zero_mul, Nat.zero_add, List.getElem?_append_left (by show i < 8; exact hi)]
    rw [Array.getElem?_toList]; rfl
  | e :: l, k + 1, i, h, hi => by
    rw [rowE_cons, List.getElem?_append_right (by show 8 ≤ _; omega)]
    rw [show (k + 1) * 8 + i - (cellsE e).toList.length = k * 8 + i by show (k + 1) * 8 + i - 8 = _; omega]
    exact rowE_get l k i (by simp at h; omega) hi
/-- an entry that may stand in a book -/
structure okE (e : En) : Prop where
  right : rightE e = true
  ints : intsE e
theorem okE.n1 {e : En} (h : okE e) : e.name.length ≤ 1048576 := by have := (rightE_facts h.right).2.1.2.2; omega
theorem okE.n2 {e : En} (h : okE e) : e.meth.length ≤ 1048576 := by have := (rightE_facts h.right).2.2.1.2.2; omega
theorem okE.n3 {e : En} (h : okE e) : e.tgt.length ≤ 1048576 := by have := (rightE_facts h.right).2.2.2.2.2; omega
theorem okE.print {e : En} (h : okE e) : printV e = .tuple #[.string (bs (printL e)), .int .i64 0] := by unfold printV; rw [if_pos h.right]
def linesL (l : List En) : List Value := l.map fun e => .string (bs (printL e))
theorem infoStr : (Tryd.prog.info? 9).map (fun i => (i.zero, i.size, i.bytes)) = some (some (.string ⟨#[]⟩), 1, 16) := by kernel_rfl

set_option maxRecDepth 100000 in
theorem lines_any (b : Nat) (v : Value) (l : List En) (w : World) (hE : EnvL w) (hB : Bok w b v l) (hok : ∀ e ∈ l, okE e) :
    Calls Tryd.prog 21 #[.pointer (some ⟨b, 0, none⟩)] w fun e w' => (∃ v2, e = .returned v2 ∧ w'.ownsRow w.heap.size 9 1 v2 l.length (linesL l)) ∧ Below w.heap.size w w' := by
  obtain ⟨i0, hi, hz0, hz1, hz2⟩ := info_parts infoStr
  have HE := Lib.hid (entries_any b v l w hB)
  have HEN := Lib.hid hE
  have HOK := Lib.hid hok
  have HFIT := Lib.hid hB.fit
  have hF2 : l.length ≤ 1073741824 := by have := HFIT.out; omega
  clear hE hok hB
  go_enter Tryd.func21, Tryd.ntmps21
  go_wp2_with fail
  refine HE.out.mono ?_; rintro x w2 ⟨⟨v2, rfl, hown⟩, b2⟩
  have ROW := Lib.hid hown
  have B2 := Lib.hid b2
  have E2 := Lib.hid (HEN.out.next b2)
  clear hown b2 HE HEN
  obtain ⟨sp, cap, hv2⟩ := row_slice ROW.out
  subst hv2
  go_wp2_with fail
  go_loopw [3, 11] (fun out i wr => ∃ k : Nat, k ≤ l.length ∧ i = .int .i64 k ∧ Hid (wr.ownsRow w2.heap.size 9 1 out k (linesL (l.take k))) ∧ Hid (Below w2.heap.size w2 wr)) (fun _ i _ => l.length - (intOf i).toNat)
  case atStart => exact ⟨0, Nat.zero_le _, rfl, World.ownsRow_nil .., Below.refl _ _⟩
  case round =>
    obtain ⟨k, hk, rfl, hO, hbr⟩ := hrel
    obtain ⟨wq, hwq⟩ : ∃ wq, wq = wr := ⟨wr, rfl⟩
    subst hwq
    obtain ⟨so, co, hout⟩ := row_slice hO.out
    subst hout
    by_cases hlt : k < l.length
    · have q0 : (0 : Int) ≤ (k : Int) := by omega
      have q1 : (k : Int) < (l.length : Int) := by omega
      have ROWQ := Lib.hid (row_kept ROW.out (fun g hg => hbr.out.block g (World.ownsRow.lt ROW.out g hg).2))
      obtain ⟨g, rfl⟩ : ∃ g, sp = some ⟨g, 0, none⟩ := by
        rcases ROW.out.2 with ⟨_, h0⟩ | ⟨g, cap', cur, h, _⟩
        · omega
        · injection h with h _ _; exact ⟨g, h⟩
      have HX := Lib.hid (HOK.out l[k] (List.getElem_mem hlt))
      have ck : ∀ i, i < 8 → wq.cell? ⟨g, k * 8 + i, none⟩ = (cellsE l[k])[i]? := fun i hi => (ROWQ.out.cellAt (k * 8 + i) (by omega)).trans (rowE_get l k i hlt hi)
      have ht : Hid (linesL (l.take (k + 1)) = linesL (l.take k) ++ [.string (bs (printL l[k]))]) := by unfold linesL Hid; rw [List.take_succ_eq_append_getElem hlt, List.map_append]; rfl
      obtain ⟨e, he⟩ := name_it l[k]
      rw [he.out] at HX ck ht
      clear he
      have c0 : wq.cell? ⟨g, k * 8, none⟩ = some (.string (bs e.name)) := ck 0 (by decide)
      have c1 : wq.cell? ⟨g, k * 8 + 1, none⟩ = some (.int .i64 e.conn) := ck 1 (by decide)
      have c2 : wq.cell? ⟨g, k * 8 + 2, none⟩ = some (.int .i64 e.numb) := ck 2 (by decide)
      have c3 : wq.cell? ⟨g, k * 8 + 3, none⟩ = some (.string (bs e.meth)) := ck 3 (by decide)
      have c4 : wq.cell? ⟨g, k * 8 + 4, none⟩ = some (.string (bs e.tgt)) := ck 4 (by decide)
      have c5 : wq.cell? ⟨g, k * 8 + 5, none⟩ = some (.int .i64 e.stat) := ck 5 (by decide)
      have c6 : wq.cell? ⟨g, k * 8 + 6, none⟩ = some (.int .i64 e.byts) := ck 6 (by decide)
      have c7 : wq.cell? ⟨g, k * 8 + 7, none⟩ = some (.int .i64 e.tick) := ck 7 (by decide)
      have PR0 := fun wx hx => print_any e wx hx HX.out.ints HX.out.n1 HX.out.n2 HX.out.n3
      rw [HX.out.print] at PR0
      have PRT := Lib.hid PR0
      obtain ⟨pl, hpl⟩ := name_it (bs (printL e))
      rw [hpl.out] at PRT ht
      clear ck PR0 hpl
      unfold encE at PRT
      have dA := Lib.hid (hbr.out.trans (((Below.refl wq.heap.size wq).alloc (Nat.le_refl _) (.cells #[.string (bs e.name), .int .i64 e.conn, .int .i64 e.numb, .string (bs e.meth), .string (bs e.tgt), .int .i64 e.stat, .int .i64 e.byts, .int .i64 e.tick] tE)).mono hbr.out.size))
      have oA := Lib.hid (hO.out.alloc (.cells #[.string (bs e.name), .int .i64 e.conn, .int .i64 e.numb, .string (bs e.meth), .string (bs e.tgt), .int .i64 e.stat, .int .i64 e.byts, .int .i64 e.tick] tE))
      have eA := Lib.hid (E2.out.next dA.out)
      go_wp2_with fail
      all_goals (try (exfalso; omega))
      refine (PRT.out _ eA.out).mono ?_; rintro x w5 ⟨rfl, b5⟩
      have d5 := Lib.hid (dA.out.trans (b5.mono dA.out.size))
      have o5 := Lib.hid (row_kept oA.out (fun g' hg' => b5.block g' (World.ownsRow.lt oA.out g' hg').2))
      clear b5 dA oA eA c0 c1 c2 c3 c4 c5 c6 c7 PRT
      go_wp2_with (at_builtin; refine append1 rfl _ _ 43 rfl w2.heap.size 9 i0 (.string ⟨#[]⟩) 16 Tryd.underlying43 hi hz0 hz1 hz2 rfl o5.out rfl (.string pl) rfl rfl ?_ ?_ ?_ ?_)
      · have := HFIT.out; unfold maxLen; omega
      · have := HFIT.out; omega
      · exact d5.out.size
      intro g6 cap6 w6 hg6 hown6 hb6
      have O6 : Hid (w6.ownsRow w2.heap.size 9 1 (.slice (some ⟨g6, 0, none⟩) (k + 1) cap6) (k + 1) (linesL (l.take (k + 1)))) := by unfold Hid; rw [ht.out]; exact hown6
      have d6 := Lib.hid (d5.out.trans hb6)
      clear hown6 hb6
      go_wp2_with fail
      go_roundw
      case rel => exact ⟨k + 1, by omega, by go_num, O6, d6⟩
      case measure => simp [intOf]; omega
    · obtain rfl : k = l.length := by omega
      have O6 := hO.out
      rw [List.take_length] at O6
      have HO6 := Lib.hid O6
      have dF := Lib.hid (B2.out.trans (hbr.out.mono B2.out.size))
      have HS := Lib.hid B2.out.size
      clear O6 hO
      go_wp2_with fail
      all_goals (try (exfalso; omega))
      go_ret
      refine ⟨⟨_, rfl, ?_⟩, dF.out⟩
      refine ⟨HO6.out.1, ?_⟩
      rcases HO6.out.2 with h | ⟨g, cap, cur, h, hb, rest⟩
      · exact Or.inl h
      · exact Or.inr ⟨g, cap, cur, h, Nat.le_trans HS.out hb, rest⟩
end Go.Proofs.YtfgaiopkclogmaaDoor
