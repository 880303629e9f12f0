/- Contracts of field: the values of a name, one of them, these joined. -/
import Derived.Test.YtjalfddedikibaaGreatDoorMc
import Derived.Test.YtjalfddedikibaaGreatDoorMa
import Derived.Test.YtjalfddedikibaaGreatDoorShelf
import Derived.Lib.Join
namespace Go.Proofs.YtjalfddedikibaaGreatDoor
open Go Go.RowKit
set_option maxHeartbeats 4000000

abbrev Tx := List UInt8
abbrev Fd := Tx × Tx
abbrev tF : TypeId := 31
abbrev tS : TypeId := 9
def strsT (l : List Tx) : List Value := l.map fun t => .string (bs t)
theorem strsT_snoc (l : List Tx) (t : Tx) : strsT (l ++ [t]) = strsT l ++ [.string (bs t)] := by unfold strsT; rw [List.map_append]; rfl
theorem strsT_get (l : List Tx) (k : Nat) (h : k < l.length) : (strsT l)[k]? = some (.string (bs l[k])) := by unfold strsT; rw [List.getElem?_map, List.getElem?_eq_getElem h]; rfl
/-- fields that lie somewhere -/
def FdSl (w : World) (v : Value) (l : List Fd) : Prop := ∃ p cap, v = .slice p l.length cap ∧ ∀ (j : Nat) (h : j < l.length), ∃ b off, p = some ⟨b, off, none⟩ ∧ b < w.heap.size ∧ w.cell? ⟨b, off + j * 2, none⟩ = some (.string (bs l[j].1)) ∧ w.cell? ⟨b, off + j * 2 + 1, none⟩ = some (.string (bs l[j].2))
theorem FdSl.next {W W' : World} {v : Value} {l : List Fd} (h : FdSl W v l) (hb : Below W.heap.size W W') : FdSl W' v l := by
  obtain ⟨p, cap, rfl, hc⟩ := h
  refine ⟨p, cap, rfl, fun j hj => ?_⟩
  obtain ⟨b, off, hp, hlt, h1, h2⟩ := hc j hj
  exact ⟨b, off, hp, Nat.lt_of_lt_of_le hlt hb.size, (hb.cell (p := ⟨b, off + j * 2, none⟩) hlt).trans h1, (hb.cell (p := ⟨b, off + j * 2 + 1, none⟩) hlt).trans h2⟩
/-- how long they are together -/
def fSum (l : List Fd) : Nat := (l.map fun f => f.1.length + f.2.length + 2).sum
theorem le_sum_mem : ∀ {l : List Nat} {n : Nat}, n ∈ l → n ≤ l.sum
  | a :: l, n, h => by
    rw [List.sum_cons]
    rcases List.mem_cons.1 h with rfl | h
    · omega
    · have := le_sum_mem h; omega
theorem fSum_mem {l : List Fd} {f : Fd} (h : f ∈ l) : f.1.length + f.2.length + 2 ≤ fSum l := by
  unfold fSum
  exact le_sum_mem (List.mem_map.2 ⟨f, h, rfl⟩)
theorem fSum_len (l : List Fd) : 2 * l.length ≤ fSum l := by
  induction l with
  | nil => exact Nat.zero_le _
  | cons f l ih => unfold fSum at ih ⊢; rw [List.map_cons, List.sum_cons, List.length_cons]; omega
/-- the values of a name -/
def valuesF (l : List Fd) (nm : Tx) : List Tx := (l.filter fun f => decide (lower f.1 = lower nm)).map (·.2)
theorem values_take (l : List Fd) (nm : Tx) (k : Nat) (h : k < l.length) : valuesF (l.take (k + 1)) nm = if lower l[k].1 = lower nm then valuesF (l.take k) nm ++ [l[k].2] else valuesF (l.take k) nm := by
  unfold valuesF
  rw [List.take_succ_eq_append_getElem h, List.filter_append, List.map_append]
  by_cases he : lower l[k].1 = lower nm
  · rw [if_pos he, List.filter_cons_of_pos (by simpa using he)]; rfl
  · rw [if_neg he, List.filter_cons_of_neg (by simpa using he)]; simp
theorem values_len (l : List Fd) (nm : Tx) : (valuesF l nm).length ≤ l.length := by unfold valuesF; rw [List.length_map]; exact List.length_filter_le _ _
theorem values_sum (l : List Fd) (nm : Tx) : ((valuesF l nm).map fun t => t.length + 2).sum ≤ fSum l := by
  induction l with
  | nil => exact Nat.zero_le _
  | cons f l ih =>
    unfold valuesF fSum at ih ⊢
    by_cases he : lower f.1 = lower nm
    · rw [List.filter_cons_of_pos (by simpa using he), List.map_cons, List.map_cons, List.map_cons, List.sum_cons, List.sum_cons]; omega
    · rw [List.filter_cons_of_neg (by simpa using he), List.map_cons, List.sum_cons]; omega
theorem value_le (l : List Fd) (nm : Tx) (k : Nat) (h : k < (valuesF l nm).length) : (valuesF l nm)[k].length + 2 ≤ fSum l := by
  have h1 : (valuesF l nm)[k].length + 2 ≤ ((valuesF l nm).map fun t => t.length + 2).sum := le_sum_mem (List.mem_map.2 ⟨_, List.getElem_mem h, rfl⟩)
  have h2 := values_sum l nm
  omega
theorem join_le (xs : List Tx) : (Lib.join xs [44, 32]).length ≤ (xs.map fun t => t.length + 2).sum := by
  cases xs with
  | nil => exact Nat.le_refl _
  | cons x r =>
    rw [Lib.join_cons, List.length_append, List.map_cons, List.sum_cons]
    have : (Lib.joinTail [44, 32] r).length = (r.map fun t => t.length + 2).sum := by
      unfold Lib.joinTail
      rw [List.length_flatten, List.map_map]
      exact congrArg List.sum (List.map_congr_left fun t _ => by simp <;> omega)
    omega
theorem infoS : (Tryz.prog.info? tS).map (fun i => (i.zero, i.size, i.bytes)) = some (some (.string ⟨#[]⟩), 1, 16) := by kernel_rfl

set_option maxRecDepth 100000 in
theorem all_any (v : Value) (l : List Fd) (nm : ByteArray) (w : World) (hv : FdSl w v l) (hl : fSum l ≤ 1048576) (hn : nm.size ≤ 1048576) :
    Calls Tryz.prog 26 #[v, .string nm] w fun e w' => (∃ v2, e = .returned v2 ∧ w'.ownsRow w.heap.size tS 1 v2 (valuesF l (L nm)).length (strsT (valuesF l (L nm)))) ∧ Below w.heap.size w w' := by
  obtain ⟨i0, hi, hz0, hz1, hz2⟩ := info_parts infoS
  obtain ⟨p, cap, rfl, hc⟩ := hv
  have HC := Lib.hid hc
  have HL := Lib.hid hl
  have hll := fSum_len l
  have hl2 : l.length ≤ 1048576 := by omega
  have HN := Lib.hid hn
  have B0 : Hid (Below w.heap.size w w) := Below.refl _ _
  have O0 : Hid (w.ownsRow w.heap.size tS 1 (.slice none 0 0) 0 (strsT [])) := World.ownsRow_nil ..
  clear hc hl hll hn
  go_enter Tryz.func26, Tryz.ntmps26
  go_wp2_with fail
  go_loopw [5, 10] (fun out i wr => ∃ k : Nat, k ≤ l.length ∧ i = .int .i64 k ∧ Hid (wr.ownsRow w.heap.size tS 1 out (valuesF (l.take k) (L nm)).length (strsT (valuesF (l.take k) (L nm)))) ∧ Hid (Below w.heap.size w wr)) (fun _ i _ => l.length - (intOf i).toNat)
  case atStart => exact ⟨0, Nat.zero_le _, rfl, O0, B0⟩
  clear O0 B0
  case round =>
    obtain ⟨k, hk, rfl, hO, hB⟩ := hrel
    obtain ⟨wq, hwq⟩ : ∃ wq, wq = wr := ⟨wr, rfl⟩
    subst hwq
    obtain ⟨so, co, hout⟩ := row_slice hO.out
    subst hout
    by_cases hlt : k < l.length
    · have q0 : (0 : Int) ≤ (k : Int) := by omega
      have q1 : (k : Int) < (l.length : Int) := by omega
      obtain ⟨b, off, rfl, hb, h1, h2⟩ := HC.out k hlt
      have c1 : wq.cell? ⟨b, off + k * 2, none⟩ = _ := (hB.out.cell (p := ⟨b, off + k * 2, none⟩) hb).trans h1
      have c2 : wq.cell? ⟨b, off + k * 2 + 1, none⟩ = _ := (hB.out.cell (p := ⟨b, off + k * 2 + 1, none⟩) hb).trans h2
      have hfm := fSum_mem (List.getElem_mem hlt)
      have ht := values_take l (L nm) k hlt
      have hvl : (valuesF (l.take k) (L nm)).length ≤ k := Nat.le_trans (values_len _ _) (by rw [List.length_take]; omega)
      obtain ⟨acc, hacc⟩ := name_it (valuesF (l.take k) (L nm))
      rw [hacc.out] at hO ht hvl ⊢
      obtain ⟨⟨fn, fv⟩, hf⟩ := name_it l[k]
      rw [hf.out] at c1 c2 hfm ht
      simp only at c1 c2 hfm ht
      have SA := Lib.hid (fun wx => same_any (bs fn) nm wx (by rw [size_bs]; unfold maxLen; have := HL.out; omega) (by unfold maxLen; have := HN.out; omega))
      rw [L_bs] at SA
      have HT := Lib.hid ht
      clear hb h1 h2 hf hacc hfm ht
      have KB : Hid (Blk (wq.alloc (.cells #[.string (bs fn), .string (bs fv)] tF)) wq.heap.size tF #[.string (bs fn), .string (bs fv)]) := Blk.new wq tF _
      have B1 : Hid (Below w.heap.size w (wq.alloc (.cells #[.string (bs fn), .string (bs fv)] tF))) := hB.out.alloc hB.out.size _
      have O1 : Hid ((wq.alloc (.cells #[.string (bs fn), .string (bs fv)] tF)).ownsRow w.heap.size tS 1 (.slice so acc.length co) acc.length (strsT acc)) := hO.out.alloc _
      go_wp2_with fail
      all_goals (try (exfalso; omega))
      refine (SA.out _).mono ?_; rintro e w5 ⟨rfl, b5⟩
      have K5 := Lib.hid (KB.out.below b5 KB.out.lt)
      have O5 := Lib.hid (row_next O1.out b5)
      have B5 := Lib.hid (B1.out.trans (b5.mono B1.out.size))
      clear b5 KB O1 B1 SA c1 c2
      have d2 : w5.cell? ⟨wq.heap.size, 1, none⟩ = some (.string (bs fv)) := K5.out.cell 1
      by_cases he : lower fn = lower (L nm)
      · have HT2 := HT.out
        rw [if_pos he] at HT2
        have HT3 := Lib.hid HT2
        have dd : decide (lower fn = lower (L nm)) = true := decide_eq_true he
        have LEN : Hid ((valuesF (l.take (k + 1)) (L nm)).length = acc.length + 1) := by unfold Hid; rw [HT2, List.length_append, List.length_singleton]
        clear he HT HT2
        rw [dd]
        clear dd
        go_wp2_with (at_builtin; refine appendC rfl _ _ 66 rfl w.heap.size tS i0 (.string ⟨#[]⟩) 1 16 Tryz.underlying66 hi hz0 hz1 hz2 rfl (by decide) O5.out rfl #[.string (bs fv)] rfl (by intro u hu; simp only [List.mem_cons, List.not_mem_nil, or_false] at hu; rcases hu with rfl; rfl) rfl rfl ?_ ?_ ?_ ?_)
        · unfold maxLen; omega
        · omega
        · exact B5.out.size
        intro g7 c7 w7 hown7 b7
        have O7 : Hid (w7.ownsRow w.heap.size tS 1 (.slice (some ⟨g7, 0, none⟩) (acc.length + 1) c7) (valuesF (l.take (k + 1)) (L nm)).length (strsT (valuesF (l.take (k + 1)) (L nm)))) := by
          unfold Hid; rw [LEN.out, HT3.out, strsT_snoc]; exact hown7
        have B7 := Lib.hid (B5.out.trans b7)
        clear hown7 b7 O5 B5 K5 d2
        go_wp2_with fail
        go_roundw
        case rel => exact ⟨k + 1, by omega, by go_num, O7, B7⟩
        case measure => simp [intOf] <;> omega
      · have HT2 := HT.out
        rw [if_neg he] at HT2
        have dd : decide (lower fn = lower (L nm)) = false := decide_eq_false he
        have O7 : Hid (w5.ownsRow w.heap.size tS 1 (.slice so acc.length co) (valuesF (l.take (k + 1)) (L nm)).length (strsT (valuesF (l.take (k + 1)) (L nm)))) := by
          unfold Hid; rw [HT2]; exact O5.out
        clear he HT HT2 O5 K5 d2
        rw [dd]
        clear dd
        go_wp2_with fail
        go_roundw
        case rel => exact ⟨k + 1, by omega, by go_num, O7, B5⟩
        case measure => simp [intOf] <;> omega
    · obtain rfl : k = l.length := by omega
      rw [List.take_length] at hO ⊢
      go_wp2_with fail
      all_goals (try (exfalso; omega))
      go_ret
      exact ⟨⟨_, rfl, hO.out⟩, hB.out⟩
def findV (vs : List Tx) : Value := match vs with | [] => .tuple #[.string ⟨#[]⟩, .bool false] | t :: _ => .tuple #[.string (bs t), .bool true]
theorem find_any (v : Value) (l : List Fd) (nm : ByteArray) (w : World) (hv : FdSl w v l) (hl : fSum l ≤ 1048576) (hn : nm.size ≤ 1048576) :
    Calls Tryz.prog 46 #[v, .string nm] w fun e w' => e = .returned (findV (valuesF l (L nm))) ∧ Below w.heap.size w w' := by
  have AL := Lib.hid (all_any v l nm w hv hl hn)
  have hvl := values_len l (L nm)
  have hll := fSum_len l
  obtain ⟨vs, hvs⟩ := name_it (valuesF l (L nm))
  rw [hvs.out] at AL hvl ⊢
  have hvb : vs.length ≤ 1048576 := by omega
  clear hv hl hn hvs hvl hll
  go_enter Tryz.func46, Tryz.ntmps46
  go_wp2_with fail
  refine AL.out.mono ?_; rintro e w1 ⟨⟨v1, rfl, h1⟩, b1⟩
  have O1 := Lib.hid h1
  have B1 := Lib.hid b1
  obtain ⟨sp, sc, rfl⟩ := row_slice h1
  clear h1 b1 AL
  cases vs with
  | nil =>
    have e0 : (([] : List Tx).length : Int) = 0 := rfl
    go_wp2_with fail
    all_goals (try (exfalso; omega))
    go_ret2
    exact ⟨rfl, B1.out⟩
  | cons t r =>
    have e0 : (((t :: r).length : Int) == 0) = false := by rw [beq_eq_false_iff_ne, List.length_cons]; omega
    have e1 : (0 : Int) < ((t :: r).length : Int) := by rw [List.length_cons]; omega
    obtain ⟨g, rfl⟩ : ∃ g, sp = some ⟨g, 0, none⟩ := by
      rcases O1.out.2 with ⟨_, h0⟩ | ⟨g, cap', cur, h, _⟩
      · simp at h0
      · injection h with h _ _; exact ⟨g, h⟩
    have c0 : w1.cell? ⟨g, 0, none⟩ = some (.string (bs t)) := (O1.out.cellAt 0 (by simp)).trans rfl
    obtain ⟨n, hn⟩ := name_it (t :: r).length
    rw [hn.out] at e0 e1 ⊢
    clear hn
    go_wp2_with fail
    all_goals (try (exfalso; omega))
    go_ret2
    exact ⟨rfl, B1.out⟩
def joinedV (vs : List Tx) : Value := .tuple #[.string (bs (Lib.join vs [44, 32])), .bool (decide (vs ≠ []))]
theorem ojoin_any (B : Nat) (v : Value) (vs : List Tx) (w : World) (hO : w.ownsRow B tS 1 v vs.length (strsT vs)) (hs : (vs.map fun t => t.length + 2).sum ≤ 1048576) :
    Calls Tryz.prog 62 #[v] w fun e w' => e = .returned (.string (bs (Lib.join vs [44, 32]))) ∧ Below w.heap.size w w' := by
  have hle := join_le vs
  have hvn : vs.length ≤ 1048576 := by
    have : vs.length ≤ (vs.map fun t => t.length + 2).sum := by
      clear hs hO hle
      induction vs with
      | nil => exact Nat.zero_le _
      | cons t r ih => rw [List.map_cons, List.sum_cons, List.length_cons]; omega
    omega
  have J : Hid (Calls Tryz.prog 89 #[v, .string ⟨#[44, 32]⟩] w fun e w' => e = .returned (.string (bs (Lib.join vs [44, 32]))) ∧ Below w.heap.size w w') := by
    unfold Hid
    rcases hO.2 with ⟨rfl, h0⟩ | ⟨g, cap, cur, rfl, hb, hg, hnc, hcm, hcs, htake⟩
    · have : vs = [] := List.eq_nil_of_length_eq_zero h0
      subst this
      refine (Tryz.strings_Join_none none 0 ⟨#[44, 32]⟩ w).mono fun e w' ⟨h1, h2⟩ => ⟨h1, h2 ▸ Below.refl _ _⟩
    · have e1 : (vs.map bs).map (·.data.toList) = vs := by rw [List.map_map]; exact List.map_id _
      have h := Tryz.strings_Join g 0 cap (vs.map bs) ⟨#[44, 32]⟩ w
        (by
          intro j x hx
          obtain ⟨hj, hx2⟩ := List.getElem?_eq_some_iff.1 hx
          rw [List.length_map] at hj
          rw [Nat.zero_add, hO.cellAt j (by omega), strsT_get vs j hj, ← hx2, List.getElem_map])
        (Array.getElem?_eq_some_iff.1 hg).1 (by rw [List.length_map]; omega) (by rw [List.length_map]; exact hnc)
        (by rw [e1]; show (Lib.join vs [44, 32]).length ≤ _; omega)
      rw [e1, List.length_map] at h
      exact h
  clear hO hs hle hvn
  obtain ⟨R, hR⟩ := name_it (bs (Lib.join vs [44, 32]))
  rw [hR.out] at J ⊢
  clear hR
  go_enter Tryz.func62, Tryz.ntmps62
  go_wp2_with fail
  refine J.out.mono ?_; rintro e w1 ⟨rfl, b1⟩
  have B1 := Lib.hid b1
  clear b1
  go_wp2_with fail
  go_ret
  exact ⟨rfl, B1.out⟩
theorem joined_any (v : Value) (l : List Fd) (nm : ByteArray) (w : World) (hv : FdSl w v l) (hl : fSum l ≤ 1048576) (hn : nm.size ≤ 1048576) :
    Calls Tryz.prog 42 #[v, .string nm] w fun e w' => e = .returned (joinedV (valuesF l (L nm))) ∧ Below w.heap.size w w' := by
  have AL := Lib.hid (all_any v l nm w hv hl hn)
  have hvl := values_len l (L nm)
  have hll := fSum_len l
  have hvs2 := values_sum l (L nm)
  obtain ⟨vs, hvs⟩ := name_it (valuesF l (L nm))
  rw [hvs.out] at AL hvl hvs2 ⊢
  have hvb : vs.length ≤ 1048576 := by omega
  have HS : Hid ((vs.map fun t => t.length + 2).sum ≤ 1048576) := by unfold Hid; omega
  clear hv hl hn hvs hvl hll hvs2
  unfold joinedV
  have hdec : decide ((0 : Int) < (vs.length : Int)) = decide (vs ≠ []) := by
    cases vs with
    | nil => rfl
    | cons t r => rw [decide_eq_true (by rw [List.length_cons]; omega), decide_eq_true (by simp)]
  have hdec2 : decide (0 < vs.length) = decide (vs ≠ []) := by rw [← hdec, decide_eq_decide]; omega
  have JO := Lib.hid (fun B v w hO => ojoin_any B v vs w hO HS.out)
  obtain ⟨D, hD⟩ := name_it (decide (vs ≠ []))
  rw [hD.out] at hdec hdec2 ⊢
  obtain ⟨R, hR⟩ := name_it (bs (Lib.join vs [44, 32]))
  rw [hR.out] at JO ⊢
  clear hD hR
  go_enter Tryz.func42, Tryz.ntmps42
  go_wp2_with fail
  refine AL.out.mono ?_; rintro e w1 ⟨⟨v1, rfl, h1⟩, b1⟩
  have O1 := Lib.hid h1
  have B1 := Lib.hid b1
  obtain ⟨sp, sc, rfl⟩ := row_slice h1
  clear h1 b1 AL
  go_wp2_with fail
  refine (JO.out _ _ _ O1.out).mono ?_; rintro e w2 ⟨rfl, b2⟩
  have B2 := Lib.hid (B1.out.trans (b2.mono B1.out.size))
  clear b2 B1 O1
  go_wp2_with fail
  go_ret2
  exact ⟨rfl, B2.out⟩
end Go.Proofs.YtjalfddedikibaaGreatDoor
