/- Books of ledger: all entries, copied. Books of ledger: all entries' lines. Ledger's awake: a book takes an entry, and tells its line. -/
import Derived.Test.YtfgaiopkclogmaaGreatDoorLedgBbJ
import Derived.WalkSpells
import Derived.Test.YtfgaiopkclogmaaGreatDoorMb
namespace Go.Proofs.YtfgaiopkclogmaaGreatDoor
open Go Go.RowKit Go.MuLone
set_option maxHeartbeats 4000000

theorem rowE_cons (e : En) (l : List En) : rowE (e :: l) = (cellsE e).toList ++ rowE l := by unfold rowE; simp
theorem rowE_len : ∀ (l : List En), (rowE l).length = l.length * 8
  | [] => rfl
  | e :: l => by rw [rowE_cons, List.length_append, rowE_len l, List.length_cons]; show 8 + _ = _; omega
theorem rowE_one : ∀ (l : List En), ∀ u ∈ rowE l, u.oneCell' = true
  | [], u, h => by cases h
  | e :: l, u, h => by
    rw [rowE_cons, List.mem_append] at h
    rcases h with h | h
    · simp only [cellsE, List.mem_cons, List.not_mem_nil, or_false] at h
      rcases h with rfl | rfl | rfl | rfl | rfl | rfl | rfl | rfl <;> rfl
    · exact rowE_one l u h
theorem Just.full {b : Nat} {w w' : World} (h : Just b w w') (hb : w'.heap[b]? = w.heap[b]?) : Below w.heap.size w w' :=
  ⟨h.os, h.tape, h.output, h.size, fun i hi => by
    by_cases e : i = b
    · subst e; exact hb
    · exact h.block i hi (fun h => by injection h with h; exact e h)⟩

set_option maxRecDepth 100000 in
theorem clone_any (v : Value) (l : List En) (w : World) (hv : w.ownsRow 5 tE 8 v l.length (rowE l)) (hl : l.length ≤ 1000000) :
    Calls Tryz.prog 62 #[v] w fun e w' => (∃ v2, e = .returned v2 ∧ w'.ownsRow w.heap.size tE 8 v2 l.length (rowE l)) ∧ Below w.heap.size w w' := by
  obtain ⟨i0, hi, hz0, hz1, hz2⟩ := info_parts infoEntry
  have HV := Lib.hid hv
  rcases hv.2 with ⟨hvn, h0⟩ | ⟨g, cap, cur, hvs, hrest⟩
  · subst hvn
    have hn := Lib.run_eql_slice_nil (P := Tryz.prog) w 22 32 none 0 0 0 0 Tryz.underlying22
    have hl0 : l = [] := List.eq_nil_of_length_eq_zero h0
    subst hl0
    clear hv h0 HV hl
    go_enter Tryz.func62, Tryz.ntmps62
    go_wp2_with fail
    go_ret
    exact ⟨⟨_, rfl, World.ownsRow_nil ..⟩, Below.refl _ _⟩
  · subst hvs
    have hn := fun wx => Lib.run_eql_slice_nil (P := Tryz.prog) wx 22 32 (some ⟨g, 0, none⟩) l.length cap 0 0 Tryz.underlying22
    have hne : ∀ j u, (rowE l)[j]? = some u → (w.alloc (.cells #[] tE)).cell? ((⟨g, 0, none⟩ : Addr).add j) = some u := by
      intro j u hj
      have hjl : j < l.length * 8 := by rw [← rowE_len]; exact (List.getElem?_eq_some_iff.1 hj).1
      have h1 := HV.out.cellAt j hjl
      rw [Addr.add_lit, Nat.zero_add]
      have hlt := (World.ownsRow.lt HV.out g rfl).2
      exact (((Below.refl w.heap.size w).alloc (Nat.le_refl _) (.cells #[] tE)).cell (p := ⟨g, j, none⟩) hlt).trans (h1.trans hj)
    have HNE := Lib.hid hne
    have OW := Lib.hid (World.ownsRow_lit (w := w) (base := w.heap.size) (e := tE) (size := 8) #[] 0 (Nat.le_refl _) (by unfold maxLen; omega) rfl)
    have HL := Lib.hid hl
    have b0 := Lib.hid ((Below.refl w.heap.size w).alloc (Nat.le_refl _) (.cells #[] tE))
    have HLEN := Lib.hid (rowE_len l)
    have HONE := Lib.hid (rowE_one l)
    clear hv hrest hne hl HV
    go_enter Tryz.func62, Tryz.ntmps62
    go_wp2_with (at_builtin; refine wpList_append_own _ rfl _ _ 22 rfl w.heap.size tE i0 (.agg #[.string ⟨#[]⟩, .int .i64 0, .int .i64 0, .string ⟨#[]⟩, .string ⟨#[]⟩, .int .i64 0, .int .i64 0, .int .i64 0]) 8 88 Tryz.underlying22 hi hz0 hz1 hz2 rfl (by decide) _ 0 [] rfl OW.out ⟨g, 0, none⟩ l.length cap (rowE l) rfl HLEN.out HNE.out HONE.out ?_ ?_ ?_ ?_)
    · have := HL.out; unfold maxLen; omega
    · have := HL.out; omega
    intro v2 w2 hown2 hgrow hnil
    try rw [Nat.zero_add, List.nil_append] at hown2
    have O2 := Lib.hid hown2
    have d2 := b0.out.trans (own_belowL OW.out hgrow (by show w.heap.size ≤ (w.heap.push _).size; rw [Array.size_push]; omega))
    clear hown2 hgrow hnil
    go_wp2_with fail
    go_ret
    exact ⟨⟨_, rfl, O2.out⟩, d2⟩

set_option maxRecDepth 100000 in
theorem entries_any (b : Nat) (v : Value) (l : List En) (w : World) (hB : Bok w b v l) :
    Calls Tryz.prog 35 #[.pointer (some ⟨b, 0, none⟩)] w fun e w' => (∃ v2, e = .returned v2 ∧ w'.ownsRow w.heap.size tE 8 v2 l.length (rowE l)) ∧ Below w.heap.size w w' := by
  have HB := Lib.hid hB
  clear hB
  go_enter_defers Tryz.func35, Tryz.ntmps35
  go_wp2_with fail
  refine (lock_free Tryz.muLib ⟨b, 0, none⟩ _ (HB.out.blk.cell 0) (HB.out.blk.frozen 0)).mono ?_
  rintro x w8 ⟨rfl, rfl⟩
  obtain ⟨w8, h8⟩ := name_it (w.setCell ⟨b, 0, none⟩ (.int .i32 1))
  have BB8 : Hid (Blk w8 b tB #[.int .i32 1, .int .u32 0, .int .i64 (l.length : Nat), v]) := by rw [← h8.out]; exact HB.out.blk.set 0 (.int .i32 1)
  have J8 : Hid (Just b w w8) := by rw [← h8.out]; exact Just.set b 0 w (.int .i32 1)
  have Z8 : Hid (w8.heap.size = w.heap.size) := by rw [← h8.out]; unfold Hid; simp
  rw [h8.out]
  have ROW8 : Hid (w8.ownsRow 5 tE 8 v l.length (rowE l)) := row_kept HB.out.row (fun g hg => J8.out.block g (HB.out.rowlt g hg).2 (fun h => by injection h with h; subst h; exact HB.out.own hg))
  clear h8
  have c3 : w8.cell? ⟨b, 3, none⟩ = some v := BB8.out.cell 3
  go_wp2_with fail
  refine (clone_any v l w8 ROW8.out HB.out.fit).mono ?_
  rintro x w9 ⟨⟨v2, rfl, hown⟩, b9⟩
  rw [Z8.out] at hown
  have O9 := Lib.hid hown
  have BB9 := Lib.hid (BB8.out.below b9 BB8.out.lt)
  have B9 := Lib.hid b9
  clear hown b9 c3
  go_wp2_with fail
  refine leaves_cons (f := 32) (args := #[.pointer (some ⟨b, 0, none⟩)]) (by simp) (by simp [go_sem]) ?_
  refine (unlock_deferred Tryz.muLib ⟨b, 0, none⟩ .returning _ (BB9.out.cell 0) (BB9.out.frozen 0)).mono ?_
  rintro x u' w'' ⟨rfl, rfl, rfl⟩
  have hJ : Just b w (w9.setCell ⟨b, 0, none⟩ (.int .i32 0)) := (J8.out.trans (Just.of B9.out (Nat.le_refl _))).trans (Just.set b 0 w9 (.int .i32 0))
  have hblk : Blk (w9.setCell ⟨b, 0, none⟩ (.int .i32 0)) b tB (bokC l.length v) := BB9.out.set 0 (.int .i32 0)
  refine ⟨_, results_tmp rfl _ _ _, ⟨⟨_, rfl, ?_⟩, hJ.full (hblk.trans HB.out.blk.symm)⟩⟩
  have hbl := HB.out.blk.lt
  refine row_kept O9.out (fun g hg => ?_)
  have hgl := World.ownsRow.lt O9.out g hg
  exact (Just.set b 0 w9 (.int .i32 0)).block g hgl.2 (fun h => by injection h with h; omega)
end Go.Proofs.YtfgaiopkclogmaaGreatDoor
namespace Go.Proofs.YtfgaiopkclogmaaGreatDoor
open Go Go.RowKit Go.MuLone
set_option maxHeartbeats 4000000

theorem rowE_get : ∀ (l : List En) (k i : Nat) (h : k < l.length), i < 8 → (rowE l)[k * 8 + i]? = (cellsE l[k])[i]?
  | [], k, i, h, _ => by simp at h
  | e :: l, 0, i, _, hi => by
    rw [rowE_cons, Nat.zero_mul, Nat.zero_add, List.getElem?_append_left (by show i < 8; exact hi)]
    rw [Array.getElem?_toList]; rfl
  | e :: l, k + 1, i, h, hi => by
    rw [rowE_cons, List.getElem?_append_right (by show 8 ≤ _; omega)]
    rw [show (k + 1) * 8 + i - (cellsE e).toList.length = k * 8 + i by show (k + 1) * 8 + i - 8 = _; omega]
    exact rowE_get l k i (by simp at h; omega) hi
/-- an entry that may stand in a book -/
structure okE (e : En) : Prop where
  right : rightE e = true
  ints : intsE e
theorem okE.n1 {e : En} (h : okE e) : e.name.length ≤ 1048576 := by have := (rightE_facts h.right).2.1.2.2; omega
theorem okE.n2 {e : En} (h : okE e) : e.meth.length ≤ 1048576 := by have := (rightE_facts h.right).2.2.1.2.2; omega
theorem okE.n3 {e : En} (h : okE e) : e.tgt.length ≤ 1048576 := by have := (rightE_facts h.right).2.2.2.2.2; omega
theorem okE.print {e : En} (h : okE e) : printV e = .tuple #[.string (bs (printL e)), .int .i64 0] := by unfold printV; rw [if_pos h.right]
def linesL (l : List En) : List Value := l.map fun e => .string (bs (printL e))
theorem infoStr : (Tryz.prog.info? 9).map (fun i => (i.zero, i.size, i.bytes)) = some (some (.string ⟨#[]⟩), 1, 16) := by kernel_rfl

set_option maxRecDepth 100000 in
theorem lines_any (b : Nat) (v : Value) (l : List En) (w : World) (hE : EnvL w) (hB : Bok w b v l) (hok : ∀ e ∈ l, okE e) :
    Calls Tryz.prog 19 #[.pointer (some ⟨b, 0, none⟩)] w fun e w' => (∃ v2, e = .returned v2 ∧ w'.ownsRow w.heap.size 9 1 v2 l.length (linesL l)) ∧ Below w.heap.size w w' := by
  obtain ⟨i0, hi, hz0, hz1, hz2⟩ := info_parts infoStr
  have HE := Lib.hid (entries_any b v l w hB)
  have HEN := Lib.hid hE
  have HOK := Lib.hid hok
  have HFIT := Lib.hid hB.fit
  have hF2 : l.length ≤ 1073741824 := by have := HFIT.out; omega
  clear hE hok hB
  go_enter Tryz.func19, Tryz.ntmps19
  go_wp2_with fail
  refine HE.out.mono ?_; rintro x w2 ⟨⟨v2, rfl, hown⟩, b2⟩
  have ROW := Lib.hid hown
  have B2 := Lib.hid b2
  have E2 := Lib.hid (HEN.out.next b2)
  clear hown b2 HE HEN
  obtain ⟨sp, cap, hv2⟩ := row_slice ROW.out
  subst hv2
  go_wp2_with fail
  go_loopw [3, 11] (fun out i wr => ∃ k : Nat, k ≤ l.length ∧ i = .int .i64 k ∧ Hid (wr.ownsRow w2.heap.size 9 1 out k (linesL (l.take k))) ∧ Hid (Below w2.heap.size w2 wr)) (fun _ i _ => l.length - (intOf i).toNat)
  case atStart => exact ⟨0, Nat.zero_le _, rfl, World.ownsRow_nil .., Below.refl _ _⟩
  case round =>
    obtain ⟨k, hk, rfl, hO, hbr⟩ := hrel
    obtain ⟨wq, hwq⟩ : ∃ wq, wq = wr := ⟨wr, rfl⟩
    subst hwq
    obtain ⟨so, co, hout⟩ := row_slice hO.out
    subst hout
    by_cases hlt : k < l.length
    · have q0 : (0 : Int) ≤ (k : Int) := by omega
      have q1 : (k : Int) < (l.length : Int) := by omega
      have ROWQ := Lib.hid (row_kept ROW.out (fun g hg => hbr.out.block g (World.ownsRow.lt ROW.out g hg).2))
      obtain ⟨g, rfl⟩ : ∃ g, sp = some ⟨g, 0, none⟩ := by
        rcases ROW.out.2 with ⟨_, h0⟩ | ⟨g, cap', cur, h, _⟩
        · omega
        · injection h with h _ _; exact ⟨g, h⟩
      have HX := Lib.hid (HOK.out l[k] (List.getElem_mem hlt))
      have ck : ∀ i, i < 8 → wq.cell? ⟨g, k * 8 + i, none⟩ = (cellsE l[k])[i]? := fun i hi => (ROWQ.out.cellAt (k * 8 + i) (by omega)).trans (rowE_get l k i hlt hi)
      have ht : Hid (linesL (l.take (k + 1)) = linesL (l.take k) ++ [.string (bs (printL l[k]))]) := by unfold linesL Hid; rw [List.take_succ_eq_append_getElem hlt, List.map_append]; rfl
      obtain ⟨e, he⟩ := name_it l[k]
      rw [he.out] at HX ck ht
      clear he
      have c0 : wq.cell? ⟨g, k * 8, none⟩ = some (.string (bs e.name)) := ck 0 (by decide)
      have c1 : wq.cell? ⟨g, k * 8 + 1, none⟩ = some (.int .i64 e.conn) := ck 1 (by decide)
      have c2 : wq.cell? ⟨g, k * 8 + 2, none⟩ = some (.int .i64 e.numb) := ck 2 (by decide)
      have c3 : wq.cell? ⟨g, k * 8 + 3, none⟩ = some (.string (bs e.meth)) := ck 3 (by decide)
      have c4 : wq.cell? ⟨g, k * 8 + 4, none⟩ = some (.string (bs e.tgt)) := ck 4 (by decide)
      have c5 : wq.cell? ⟨g, k * 8 + 5, none⟩ = some (.int .i64 e.stat) := ck 5 (by decide)
      have c6 : wq.cell? ⟨g, k * 8 + 6, none⟩ = some (.int .i64 e.byts) := ck 6 (by decide)
      have c7 : wq.cell? ⟨g, k * 8 + 7, none⟩ = some (.int .i64 e.tick) := ck 7 (by decide)
      have PR0 := fun wx hx => print_any e wx hx HX.out.ints HX.out.n1 HX.out.n2 HX.out.n3
      rw [HX.out.print] at PR0
      have PRT := Lib.hid PR0
      obtain ⟨pl, hpl⟩ := name_it (bs (printL e))
      rw [hpl.out] at PRT ht
      clear ck PR0 hpl
      unfold encE at PRT
      have dA := Lib.hid (hbr.out.trans (((Below.refl wq.heap.size wq).alloc (Nat.le_refl _) (.cells #[.string (bs e.name), .int .i64 e.conn, .int .i64 e.numb, .string (bs e.meth), .string (bs e.tgt), .int .i64 e.stat, .int .i64 e.byts, .int .i64 e.tick] tE)).mono hbr.out.size))
      have oA := Lib.hid (hO.out.alloc (.cells #[.string (bs e.name), .int .i64 e.conn, .int .i64 e.numb, .string (bs e.meth), .string (bs e.tgt), .int .i64 e.stat, .int .i64 e.byts, .int .i64 e.tick] tE))
      have eA := Lib.hid (E2.out.next dA.out)
      go_wp2_with fail
      all_goals (try (exfalso; omega))
      refine (PRT.out _ eA.out).mono ?_; rintro x w5 ⟨rfl, b5⟩
      have d5 := Lib.hid (dA.out.trans (b5.mono dA.out.size))
      have o5 := Lib.hid (row_kept oA.out (fun g' hg' => b5.block g' (World.ownsRow.lt oA.out g' hg').2))
      clear b5 dA oA eA c0 c1 c2 c3 c4 c5 c6 c7 PRT
      go_wp2_with (at_builtin; refine append1 rfl _ _ 43 rfl w2.heap.size 9 i0 (.string ⟨#[]⟩) 16 Tryz.underlying43 hi hz0 hz1 hz2 rfl o5.out rfl (.string pl) rfl rfl ?_ ?_ ?_ ?_)
      · have := HFIT.out; unfold maxLen; omega
      · have := HFIT.out; omega
      · exact d5.out.size
      intro g6 cap6 w6 hg6 hown6 hb6
      have O6 : Hid (w6.ownsRow w2.heap.size 9 1 (.slice (some ⟨g6, 0, none⟩) (k + 1) cap6) (k + 1) (linesL (l.take (k + 1)))) := by unfold Hid; rw [ht.out]; exact hown6
      have d6 := Lib.hid (d5.out.trans hb6)
      clear hown6 hb6
      go_wp2_with fail
      go_roundw
      case rel => exact ⟨k + 1, by omega, by go_num, O6, d6⟩
      case measure => simp [intOf]; omega
    · obtain rfl : k = l.length := by omega
      have O6 := hO.out
      rw [List.take_length] at O6
      have HO6 := Lib.hid O6
      have dF := Lib.hid (B2.out.trans (hbr.out.mono B2.out.size))
      have HS := Lib.hid B2.out.size
      clear O6 hO
      go_wp2_with fail
      all_goals (try (exfalso; omega))
      go_ret
      refine ⟨⟨_, rfl, ?_⟩, dF.out⟩
      refine ⟨HO6.out.1, ?_⟩
      rcases HO6.out.2 with h | ⟨g, cap, cur, h, hb, rest⟩
      · exact Or.inl h
      · exact Or.inr ⟨g, cap, cur, h, Nat.le_trans HS.out hb, rest⟩
end Go.Proofs.YtfgaiopkclogmaaGreatDoor
namespace Go.Proofs.YtfgaiopkclogmaaGreatDoor
open Go Go.RowKit Go.MuLone
set_option maxHeartbeats 4000000

def e0 : En := ⟨[97], [71, 69, 84], [47, 120, 63, 121], 3, 1, 7, 200, 5⟩
theorem itoa_one (n : Nat) (h : n < 10) : Lib.itoa (n : Nat) = [digC n] := by
  rw [itoa_nat, decDigits_step, if_pos (by omega)]; rfl
theorem line0 : printL e0 = [97, 32, 99, 111, 110, 110, 61, 51, 32, 110, 117, 109, 98, 101, 114, 61, 49, 32, 116, 105, 99, 107, 61, 55, 32, 71, 69, 84, 32, 34, 47, 120, 63, 121, 34, 32, 50, 48, 48, 32, 53] := by
  unfold printL e0
  have h3 : Lib.itoa 3 = [51] := itoa_one 3 (by decide)
  have h1 : Lib.itoa 1 = [49] := itoa_one 1 (by decide)
  have h7 : Lib.itoa 7 = [55] := itoa_one 7 (by decide)
  have h5 : Lib.itoa 5 = [53] := itoa_one 5 (by decide)
  have h200 : Lib.itoa 200 = [50, 48, 48] := by
    have := itoa_nat 200
    rw [show Lib.itoa 200 = Lib.decDigits 200 from this, decDigits_step, if_neg (by decide), decDigits_step, if_neg (by decide), decDigits_step, if_pos (by decide)]; rfl
  simp only []
  rw [h3, h1, h7, h5, h200]
  rfl
theorem ok0 : okE e0 := ⟨by decide +kernel, by unfold intsE e0; decide⟩

set_option maxRecDepth 100000 in
theorem awake_any (w : World) (hE : EnvL w) : Calls Tryz.prog 10 #[] w fun e w' => e = .returned (.bool true) ∧ Below w.heap.size w w' := by
  have HE := Lib.hid hE
  have h5 : 5 ≤ w.heap.size := hE.env.n
  have NB := Lib.hid (newBook_any w h5)
  clear hE h5
  have ADD : Hid (∀ (v : Value) (wx : World), EnvT wx → Bok wx w.heap.size v [] → Calls Tryz.prog 11 #[.pointer (some ⟨w.heap.size, 0, none⟩), .string ⟨#[97]⟩, .agg #[.int .i64 3, .int .i64 1, .string ⟨#[71, 69, 84]⟩, .string ⟨#[47, 120, 63, 121]⟩, .int .i64 200, .int .i64 5, .int .i64 7]] wx fun x w' => x = .returned (.int .i64 0) ∧ Added wx w.heap.size v [] e0 w') :=
    fun v wx h1 h2 => add_yes w.heap.size v [] e0 wx h1 h2 ok0.right (by decide) (by decide) (by decide) (by decide)
  go_enter Tryz.func10, Tryz.ntmps10
  go_wp2_with fail
  refine NB.out.mono ?_; rintro x w1 ⟨rfl, hbok, b1⟩
  have BK1 := Lib.hid hbok
  have B1 := Lib.hid b1
  have E1 := Lib.hid (HE.out.next b1)
  clear hbok b1 NB HE
  go_wp2_with fail
  refine (ADD.out _ _ E1.out.env BK1.out).mono ?_; rintro x w2 ⟨rfl, hadd⟩
  obtain ⟨v2, hbk, _, hk⟩ := hadd
  have BK2 := Lib.hid hbk
  have b2 : Below w.heap.size w1 w2 := hk.below (fun i hi h => by rcases h with h | h; omega; cases h) B1.out.size
  have B2 := Lib.hid (B1.out.trans b2)
  have E2 := Lib.hid (⟨⟨Nat.le_trans E1.out.env.n (Nat.le_trans (by exact Nat.le_refl _) hk.size), fun j hj => by rw [b2.cell (p := ⟨1, j, none⟩) (by have := BK1.out.low; show 1 < w.heap.size; omega)]; exact E1.out.env.sg j hj⟩, var?_below b2 gPowL (by have := BK1.out.low; show 2 < w.heap.size; omega) E1.out.pow⟩ : EnvL w2)
  clear hbk hk b2 BK1 B1 E1 ADD
  have LN := Lib.hid (lines_any w.heap.size v2 ([] ++ [e0]) w2 E2.out BK2.out (fun e he => by
    rw [List.nil_append, List.mem_singleton] at he
    rw [he]; exact ok0))
  go_wp2_with fail
  refine LN.out.mono ?_; rintro x w3 ⟨⟨v3, rfl, hown⟩, b3⟩
  have hown2 : w3.ownsRow w2.heap.size 9 1 v3 1 [.string (bs (printL e0))] := hown
  rw [line0] at hown2
  have ROW := Lib.hid hown2
  have LEN := Lib.hid (len_any w.heap.size v2 ([] ++ [e0]) w3 (BK2.out.next b3))
  have B3 := Lib.hid (B2.out.trans (b3.mono B2.out.size))
  clear hown hown2 b3 LN
  obtain ⟨g, cap, hv3⟩ : ∃ g cap, v3 = .slice (some ⟨g, 0, none⟩) 1 cap := by
    rcases ROW.out.2 with ⟨_, h0⟩ | ⟨g, cap, cur, h, _⟩
    · omega
    · exact ⟨g, cap, h⟩
  subst hv3
  have c0 : w3.cell? ⟨g, 0, none⟩ = some (.string ⟨#[97, 32, 99, 111, 110, 110, 61, 51, 32, 110, 117, 109, 98, 101, 114, 61, 49, 32, 116, 105, 99, 107, 61, 55, 32, 71, 69, 84, 32, 34, 47, 120, 63, 121, 34, 32, 50, 48, 48, 32, 53]⟩) := ROW.out.cellAt 0 (by omega)
  go_wp2_with fail
  refine LEN.out.mono ?_; rintro x w4 ⟨rfl, rfl⟩
  go_wp2_with fail
  go_ret
  exact ⟨rfl, B3.out⟩
end Go.Proofs.YtfgaiopkclogmaaGreatDoor
