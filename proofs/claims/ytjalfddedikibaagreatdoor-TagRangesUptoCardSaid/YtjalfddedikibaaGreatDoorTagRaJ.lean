/- Contracts of the document's All, Joined, Date and met. -/
import Derived.Test.YtjalfddedikibaaGreatDoorTagFJ
import Derived.Test.YtjalfddedikibaaGreatDoorTagLJ
import Derived.Test.YtjalfddedikibaaGreatDoorTagHJ
import Derived.Test.YtjalfddedikibaaGreatDoorTagVJ
import Derived.Test.YtjalfddedikibaaGreatDoorMg
import Derived.Test.YtjalfddedikibaaGreatDoorMo
namespace Go.Proofs.YtjalfddedikibaaGreatDoor
open Go Go.RowKit Go.Sort
set_option maxHeartbeats 4000000

abbrev tRF : TypeId := 65
abbrev tRSt : TypeId := 38

set_option maxRecDepth 100000 in
theorem rall_any (v : Value) (l : List Fd) (nm : ByteArray) (w : World) (hv : FdSl w v l) (hl : fSum l ≤ 1048576) (hn : nm.size ≤ 1048576) :
    Calls Tryz.prog 30 #[v, .string nm] w fun e w' => (∃ v2, e = .returned v2 ∧ w'.ownsRow w.heap.size tS 1 v2 (valuesF l (L nm)).length (strsT (valuesF l (L nm)))) ∧ Below w.heap.size w w' := by
  obtain ⟨i0, hi, hz0, hz1, hz2⟩ := info_parts infoS
  obtain ⟨p, cap, rfl, hc⟩ := hv
  have HC := Lib.hid hc
  have HL := Lib.hid hl
  have hll := fSum_len l
  have hl2 : l.length ≤ 1048576 := by omega
  have HN := Lib.hid hn
  have B0 : Hid (Below w.heap.size w w) := Below.refl _ _
  have O0 : Hid (w.ownsRow w.heap.size tS 1 (.slice none 0 0) 0 (strsT [])) := World.ownsRow_nil ..
  clear hc hl hll hn
  go_enter Tryz.func30, Tryz.ntmps30
  go_wp2_with fail
  go_loopw [5, 10] (fun out i wr => ∃ k : Nat, k ≤ l.length ∧ i = .int .i64 k ∧ Hid (wr.ownsRow w.heap.size tS 1 out (valuesF (l.take k) (L nm)).length (strsT (valuesF (l.take k) (L nm)))) ∧ Hid (Below w.heap.size w wr)) (fun _ i _ => l.length - (intOf i).toNat)
  case atStart => exact ⟨0, Nat.zero_le _, rfl, O0, B0⟩
  clear O0 B0
  case round =>
    obtain ⟨k, hk, rfl, hO, hB⟩ := hrel
    obtain ⟨wq, hwq⟩ : ∃ wq, wq = wr := ⟨wr, rfl⟩
    subst hwq
    obtain ⟨so, co, hout⟩ := row_slice hO.out
    subst hout
    by_cases hlt : k < l.length
    · have q0 : (0 : Int) ≤ (k : Int) := by omega
      have q1 : (k : Int) < (l.length : Int) := by omega
      obtain ⟨b, off, rfl, hb, h1, h2⟩ := HC.out k hlt
      have c1 : wq.cell? ⟨b, off + k * 2, none⟩ = _ := (hB.out.cell (p := ⟨b, off + k * 2, none⟩) hb).trans h1
      have c2 : wq.cell? ⟨b, off + k * 2 + 1, none⟩ = _ := (hB.out.cell (p := ⟨b, off + k * 2 + 1, none⟩) hb).trans h2
      have hfm := fSum_mem (List.getElem_mem hlt)
      have ht := values_take l (L nm) k hlt
      have hvl : (valuesF (l.take k) (L nm)).length ≤ k := Nat.le_trans (values_len _ _) (by rw [List.length_take]; omega)
      obtain ⟨acc, hacc⟩ := name_it (valuesF (l.take k) (L nm))
      rw [hacc.out] at hO ht hvl ⊢
      obtain ⟨⟨fn, fv⟩, hf⟩ := name_it l[k]
      rw [hf.out] at c1 c2 hfm ht
      simp only at c1 c2 hfm ht
      have SA := Lib.hid (fun wx => rsame6_any (bs fn) nm wx (by rw [size_bs]; unfold maxLen; have := HL.out; omega) (by unfold maxLen; have := HN.out; omega))
      rw [L_bs] at SA
      have HT := Lib.hid ht
      clear hb h1 h2 hf hacc hfm ht
      have KB : Hid (Blk (wq.alloc (.cells #[.string (bs fn), .string (bs fv)] tRF)) wq.heap.size tRF #[.string (bs fn), .string (bs fv)]) := Blk.new wq tRF _
      have B1 : Hid (Below w.heap.size w (wq.alloc (.cells #[.string (bs fn), .string (bs fv)] tRF))) := hB.out.alloc hB.out.size _
      have O1 : Hid ((wq.alloc (.cells #[.string (bs fn), .string (bs fv)] tRF)).ownsRow w.heap.size tS 1 (.slice so acc.length co) acc.length (strsT acc)) := hO.out.alloc _
      go_wp2_with fail
      all_goals (try (exfalso; omega))
      refine (SA.out _).mono ?_; rintro e w5 ⟨rfl, b5⟩
      have K5 := Lib.hid (KB.out.below b5 KB.out.lt)
      have O5 := Lib.hid (row_next O1.out b5)
      have B5 := Lib.hid (B1.out.trans (b5.mono B1.out.size))
      clear b5 KB O1 B1 SA c1 c2
      have d2 : w5.cell? ⟨wq.heap.size, 1, none⟩ = some (.string (bs fv)) := K5.out.cell 1
      by_cases he : lower fn = lower (L nm)
      · have HT2 := HT.out
        rw [if_pos he] at HT2
        have HT3 := Lib.hid HT2
        have dd : decide (lower fn = lower (L nm)) = true := decide_eq_true he
        have LEN : Hid ((valuesF (l.take (k + 1)) (L nm)).length = acc.length + 1) := by unfold Hid; rw [HT2, List.length_append, List.length_singleton]
        clear he HT HT2
        rw [dd]
        clear dd
        go_wp2_with (at_builtin; refine appendC rfl _ _ 66 rfl w.heap.size tS i0 (.string ⟨#[]⟩) 1 16 Tryz.underlying66 hi hz0 hz1 hz2 rfl (by decide) O5.out rfl #[.string (bs fv)] rfl (by intro u hu; simp only [List.mem_cons, List.not_mem_nil, or_false] at hu; rcases hu with rfl; rfl) rfl rfl ?_ ?_ ?_ ?_)
        · unfold maxLen; omega
        · omega
        · exact B5.out.size
        intro g7 c7 w7 hown7 b7
        have O7 : Hid (w7.ownsRow w.heap.size tS 1 (.slice (some ⟨g7, 0, none⟩) (acc.length + 1) c7) (valuesF (l.take (k + 1)) (L nm)).length (strsT (valuesF (l.take (k + 1)) (L nm)))) := by
          unfold Hid; rw [LEN.out, HT3.out, strsT_snoc]; exact hown7
        have B7 := Lib.hid (B5.out.trans b7)
        clear hown7 b7 O5 B5 K5 d2
        go_wp2_with fail
        go_roundw
        case rel => exact ⟨k + 1, by omega, by go_num, O7, B7⟩
        case measure => simp [intOf] <;> omega
      · have HT2 := HT.out
        rw [if_neg he] at HT2
        have dd : decide (lower fn = lower (L nm)) = false := decide_eq_false he
        have O7 : Hid (w5.ownsRow w.heap.size tS 1 (.slice so acc.length co) (valuesF (l.take (k + 1)) (L nm)).length (strsT (valuesF (l.take (k + 1)) (L nm)))) := by
          unfold Hid; rw [HT2]; exact O5.out
        clear he HT HT2 O5 K5 d2
        rw [dd]
        clear dd
        go_wp2_with fail
        go_roundw
        case rel => exact ⟨k + 1, by omega, by go_num, O7, B5⟩
        case measure => simp [intOf] <;> omega
    · obtain rfl : k = l.length := by omega
      rw [List.take_length] at hO ⊢
      go_wp2_with fail
      all_goals (try (exfalso; omega))
      go_ret
      exact ⟨⟨_, rfl, hO.out⟩, hB.out⟩

theorem join_snoc (xs : List Tx) (x sep : List UInt8) : Lib.join (xs ++ [x]) sep = if xs = [] then x else Lib.join xs sep ++ sep ++ x := by
  cases xs with
  | nil => rw [if_pos rfl, List.nil_append, Lib.join_one]
  | cons y r =>
    rw [if_neg (by simp), List.cons_append, Lib.join_cons, Lib.join_cons]
    have h := Lib.joinTail_take_succ sep (r ++ [x]) r.length x (by simp)
    rw [List.take_of_length_le (by simp), List.take_left] at h
    rw [h]; simp
theorem sum_take (l : List Nat) (k : Nat) : (l.take k).sum ≤ l.sum := by
  have h : l.sum = (l.take k).sum + (l.drop k).sum := by
    conv => lhs; rw [← List.take_append_drop k l]
    rw [List.sum_append]
  omega
theorem join_take_le (xs : List Tx) (k : Nat) : (Lib.join (xs.take k) [44, 32]).length ≤ (xs.map fun t => t.length + 2).sum := by
  refine Nat.le_trans (join_le _) ?_
  rw [List.map_take]
  exact sum_take _ _

set_option maxRecDepth 100000 in
theorem rjoined_any (v : Value) (l : List Fd) (nm : ByteArray) (w : World) (hv : FdSl w v l) (hl : fSum l ≤ 1048576) (hn : nm.size ≤ 1048576) :
    Calls Tryz.prog 23 #[v, .string nm] w fun e w' => e = .returned (joinedV (valuesF l (L nm))) ∧ Below w.heap.size w w' := by
  have AL := Lib.hid (rall_any v l nm w hv hl hn)
  have hvl := values_len l (L nm)
  have hll := fSum_len l
  have hvs2 := values_sum l (L nm)
  obtain ⟨vs, hvs⟩ := name_it (valuesF l (L nm))
  rw [hvs.out] at AL hvl hvs2 ⊢
  have hvb : vs.length ≤ 1048576 := by omega
  have HJL : Hid (∀ k, (Lib.join (vs.take k) [44, 32]).length ≤ 1048576) := fun k => Nat.le_trans (join_take_le vs k) (by omega)
  clear hv hl hn hvs hvl hll hvs2
  go_enter Tryz.func23, Tryz.ntmps23
  go_wp2_with fail
  refine AL.out.mono ?_; rintro e w1 ⟨⟨v1, rfl, h1⟩, b1⟩
  have O1 := Lib.hid h1
  have B1 := Lib.hid b1
  obtain ⟨sp, sc, rfl⟩ := row_slice h1
  clear h1 b1 AL
  have J0 : Hid (L (⟨#[]⟩ : ByteArray) = Lib.join (vs.take 0) [44, 32]) := rfl
  go_wp2_with fail
  go_loop [7, 8, 15] (fun s _ i => ∃ (k : Nat) (S : ByteArray), k ≤ vs.length ∧ i = .int .i64 k ∧ s = .string S ∧ S.size ≤ 1048576 ∧ Hid (L S = Lib.join (vs.take k) [44, 32])) (fun _ _ i => vs.length - (intOf i).toNat)
  case atStart => exact ⟨0, ⟨#[]⟩, Nat.zero_le _, rfl, rfl, by decide, J0⟩
  clear J0
  case round =>
    obtain ⟨k, S, hk, rfl, rfl, hsz, hS⟩ := hrel
    by_cases hlt : k < vs.length
    · have q0 : (0 : Int) ≤ (k : Int) := by omega
      have q1 : (k : Int) < (vs.length : Int) := by omega
      obtain ⟨g, rfl⟩ : ∃ g, sp = some ⟨g, 0, none⟩ := by
        rcases O1.out.2 with ⟨_, h0⟩ | ⟨g, cap', cur, h, _⟩
        · omega
        · injection h with h _ _; exact ⟨g, h⟩
      have c0 : w1.cell? ⟨g, k, none⟩ = some (.string (bs vs[k])) := (O1.out.cellAt k (by omega)).trans (strsT_get vs k hlt)
      have hj := HJL.out (k + 1)
      have hjs : vs.take (k + 1) = vs.take k ++ [vs[k]] := List.take_succ_eq_append_getElem hlt
      have hj2 := join_snoc (vs.take k) vs[k] [44, 32]
      rw [← hjs] at hj2
      obtain ⟨X, hX⟩ := name_it (bs vs[k])
      rw [hX.out] at c0
      have HXL : Hid (L X = vs[k]) := by unfold Hid; rw [← hX.out, L_bs]
      obtain ⟨y, hy⟩ := name_it vs[k]
      rw [hy.out] at hj2 HXL
      have HJ2 := Lib.hid hj2
      have HJB := Lib.hid hj
      clear hj2 hjs hX hy hj
      by_cases hk0 : k = 0
      · subst hk0
        have hS0 : S = ⟨#[]⟩ := by
          apply L_inj.1; rw [hS.out]; rfl
        have HN : Hid (L X = Lib.join (vs.take (0 + 1)) [44, 32]) := by
          unfold Hid; rw [HJ2.out, if_pos (by simp), HXL.out]
        have HNZ : Hid (X.size ≤ 1048576) := by
          unfold Hid; rw [← L_length, HN.out]; exact HJB.out
        have hnz := HNZ.out
        have HNS : Hid (L (S ++ X) = Lib.join (vs.take (0 + 1)) [44, 32] ∧ (S ++ X).size ≤ 1048576) := by
          have e : L (S ++ X) = L X := by rw [hS0]; simp [L, ByteArray.data_append]
          exact ⟨by rw [e]; exact HN.out, by rw [← L_length, e, L_length]; exact hnz⟩
        clear HJ2 HXL hS0 hS
        go_wp2_with fail
        all_goals (try (exfalso; omega))
        go_round
        case rel => exact ⟨0 + 1, _, by omega, by go_num, rfl, HNS.out.2, Lib.hid HNS.out.1⟩
        case measure => simp [intOf] <;> omega
      · have hk1 : (0 : Int) < (k : Int) := by omega
        have hne : vs.take k ≠ [] := by
          intro h
          have := congrArg List.length h
          rw [List.length_take, List.length_nil] at this; omega
        have HN : Hid (L (S ++ ⟨#[44, 32]⟩ ++ X) = Lib.join (vs.take (k + 1)) [44, 32]) := by
          unfold Hid; rw [HJ2.out, if_neg hne, ← hS.out, ← HXL.out]; simp [L, ByteArray.data_append]
        have HNZ : (S ++ ⟨#[44, 32]⟩ ++ X).size ≤ 1048576 := by rw [← L_length, HN.out]; exact HJB.out
        have hxz : X.size ≤ 1048576 := by
          have : (S ++ ⟨#[44, 32]⟩ ++ X).size = S.size + 2 + X.size := by rw [ByteArray.size_append, ByteArray.size_append]; rfl
          omega
        have hcz : (⟨#[44, 32]⟩ : ByteArray).size = 2 := rfl
        have HZ2 := Lib.hid HNZ
        clear HJ2 HXL hS hne HNZ
        go_wp2_with fail
        all_goals (try (exfalso; omega))
        go_round
        case rel => exact ⟨k + 1, _, by omega, by go_num, rfl, HZ2.out, HN⟩
        case measure => simp [intOf] <;> omega
    · obtain rfl : k = vs.length := by omega
      rw [List.take_length] at hS
      have HF : Hid (joinedV vs = .tuple #[.string S, .bool (decide (0 < vs.length))]) := by
        unfold Hid joinedV
        rw [← hS.out, bs_L]
        have : decide (vs ≠ []) = decide (0 < vs.length) := by
          cases vs with
          | nil => rfl
          | cons a r => exact (decide_eq_true (by simp)).trans (decide_eq_true (by rw [List.length_cons]; omega)).symm
        rw [this]
      go_wp2_with fail
      all_goals (try (exfalso; omega))
      go_ret2
      exact ⟨by rw [HF.out]; rfl, B1.out⟩

set_option maxRecDepth 100000 in
theorem rdate_any (v : Value) (l : List Fd) (nm : ByteArray) (now : Int) (w : World) (hv : FdSl w v l) (hl : fSum l ≤ 1048576) (hn : nm.size ≤ 1048576) :
    Calls Tryz.prog 25 #[v, .string nm, .int .i64 now] w fun e w' => e = .returned (dateR (dateT now (valuesF l (L nm)))) ∧ Below w.heap.size w w' := by
  have AL := Lib.hid (rall_any v l nm w hv hl hn)
  have hvl := values_len l (L nm)
  have hll := fSum_len l
  obtain ⟨vs, hvs⟩ := name_it (valuesF l (L nm))
  rw [hvs.out] at AL hvl ⊢
  have hsz : ∀ x ∈ vs, x.length + 2 ≤ fSum l := by
    intro x hx
    rw [← hvs.out] at hx
    obtain ⟨k, hk, rfl⟩ := List.getElem_of_mem hx
    exact value_le l (L nm) k hk
  have hvb : vs.length ≤ 1048576 := by omega
  obtain ⟨D, HDT⟩ := name_it (dateT now vs)
  rw [HDT.out]
  clear hv hn hvs hvl hll
  go_enter Tryz.func25, Tryz.ntmps25
  go_wp2_with fail
  refine AL.out.mono ?_; rintro e w1 ⟨⟨v1, rfl, h1⟩, b1⟩
  have O1 := Lib.hid h1
  have B1 := Lib.hid b1
  obtain ⟨sp, sc, rfl⟩ := row_slice h1
  clear h1 b1 AL
  by_cases h1 : vs.length = 1
  · obtain ⟨x, rfl⟩ : ∃ x, vs = [x] := List.length_eq_one_iff.1 h1
    have hx := hsz x (by simp)
    obtain ⟨g, rfl⟩ : ∃ g, sp = some ⟨g, 0, none⟩ := by
      rcases O1.out.2 with ⟨_, h0⟩ | ⟨g, cap', cur, h, _⟩
      · simp at h0
      · injection h with h _ _; exact ⟨g, h⟩
    have c0 : w1.cell? ⟨g, 0, none⟩ = some (.string (bs x)) := (O1.out.cellAt 0 (by simp)).trans rfl
    have PA := Lib.hid (fun wx => rparse_any (bs x) now wx (by rw [size_bs]; omega))
    rw [L_bs] at PA
    have e1 : ([x].length : Int) = 1 := rfl
    have HD : Hid (D = ((Stm.parseP x (isMom now) (nowY now)).m, (Stm.parseP x (isMom now) (nowY now)).e == 0)) := HDT.out.symm.trans rfl
    obtain ⟨R, hR⟩ := name_it (Stm.parseP x (isMom now) (nowY now))
    rw [hR.out] at HD PA
    unfold parseV at PA
    obtain ⟨n, hn⟩ := name_it [x].length
    rw [hn.out] at e1 ⊢
    clear hn h1 hsz HDT hR hx hvb O1
    go_wp2_with fail
    all_goals (try (exfalso; omega))
    refine (PA.out _).mono ?_; rintro e w2 ⟨rfl, b2⟩
    have B3 := Lib.hid (B1.out.trans (b2.mono B1.out.size))
    clear b2 c0
    go_wp2_with fail
    go_ret2
    exact ⟨by rw [HD.out]; rfl, B3.out⟩
  · have e1 : ((vs.length : Int) == 1) = false := by rw [beq_eq_false_iff_ne]; omega
    have HD : Hid (D = (0, false)) := HDT.out.symm.trans <| by
      rcases vs with _ | ⟨a, _ | ⟨b, r⟩⟩
      · rfl
      · simp at h1
      · rfl
    obtain ⟨n, hn⟩ := name_it vs.length
    rw [hn.out] at e1 h1 ⊢
    have h2 : (n : Int) ≠ 1 := by omega
    clear hn HDT
    go_wp2_with fail
    all_goals (try (exfalso; omega))
    go_ret2
    exact ⟨by rw [HD.out]; rfl, B1.out⟩
end Go.Proofs.YtjalfddedikibaaGreatDoor
