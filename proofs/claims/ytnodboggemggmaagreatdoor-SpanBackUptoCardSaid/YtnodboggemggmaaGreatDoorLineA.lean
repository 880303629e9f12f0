/- Contracts of a line's value: the program's reader. -/
import Derived.Test.YtnodboggemggmaaGreatDoorPiecesP
import Derived.Test.YtnodboggemggmaaGreatDoorSpanH
import Derived.BigQuiet
import Derived.Lib.IndexMore
namespace Go.Proofs.YtnodboggemggmaaGreatDoor
open Go Go.RowKit
set_option maxHeartbeats 2000000

theorem occ2_cons (x : UInt8) (r : List UInt8) (k : Nat) : Lib.occAt (x :: r) [13, 10] (k + 1) = Lib.occAt r [13, 10] k := rfl
theorem crlf_none : ∀ {l : List UInt8}, crlfAt l = none → ∀ k, Lib.occAt l [13, 10] k = false
  | [], _, k => by cases k <;> rfl
  | [x], _, 0 => by simp [Lib.occAt, List.isPrefixOf]
  | [x], _, k + 1 => by rw [occ2_cons]; cases k <;> rfl
  | x :: y :: r, h, 0 => by
    rw [crlfAt] at h
    split at h
    · cases h
    · rename_i hn
      simp only [Lib.occAt, List.drop_zero, List.isPrefixOf, Bool.and_true]
      rw [Bool.eq_false_iff]
      intro hh
      simp at hh
      exact hn ⟨hh.1.symm, hh.2.symm⟩
  | x :: y :: r, h, k + 1 => by
    rw [crlfAt] at h
    split at h
    · cases h
    · rw [occ2_cons]
      exact crlf_none (by cases hq : crlfAt (y :: r) <;> simp_all) k
theorem crlf_some : ∀ {l : List UInt8} {j : Nat}, crlfAt l = some j → Lib.occAt l [13, 10] j = true ∧ (∀ k, k < j → Lib.occAt l [13, 10] k = false) ∧ j + 2 ≤ l.length
  | [], j, h => by cases h
  | [x], j, h => by cases h
  | x :: y :: r, j, h => by
    rw [crlfAt] at h
    split at h
    · rename_i hh
      cases h
      obtain ⟨rfl, rfl⟩ := hh
      exact ⟨by simp [Lib.occAt, List.isPrefixOf], fun k hk => by omega, by simp⟩
    · rename_i hn
      cases hq : crlfAt (y :: r) with
      | none => rw [hq] at h; cases h
      | some i =>
        rw [hq] at h
        cases h
        obtain ⟨h1, h2, h3⟩ := crlf_some hq
        refine ⟨by rw [occ2_cons]; exact h1, fun k hk => ?_, by simp at h3 ⊢; omega⟩
        cases k with
        | zero =>
          simp only [Lib.occAt, List.drop_zero, List.isPrefixOf, Bool.and_true]
          rw [Bool.eq_false_iff]
          intro hh
          simp at hh
          exact hn ⟨hh.1.symm, hh.2.symm⟩
        | succ k =>
          have hk2 : k + 1 < i + 1 := hk
          rw [occ2_cons]; exact h2 k (by omega)
theorem lib_cut2 (l : List UInt8) : Lib.cut l [13, 10] = match crlfAt l with | none => (l, [], false) | some j => (l.take j, l.drop (j + 2), true) := by
  unfold Lib.cut
  cases hq : crlfAt l with
  | none =>
    have hn := crlf_none hq
    rcases Lib.index_spec l [13, 10] with ⟨h1, _⟩ | ⟨i, _, _, h3, _⟩
    · rw [h1]; rfl
    · rw [hn i] at h3; exact absurd h3 (by decide)
  | some j =>
    obtain ⟨h1, h2, h3⟩ := crlf_some hq
    rcases Lib.index_spec l [13, 10] with ⟨_, hn⟩ | ⟨i, hi, _, ho, hmin⟩
    · rw [hn j (by omega)] at h1; exact absurd h1 (by decide)
    · have : i = j := by
        rcases Nat.lt_trichotomy i j with h | h | h
        · rw [h2 i h] at ho; exact absurd ho (by decide)
        · exact h
        · rw [hmin j h] at h1; exact absurd h1 (by decide)
      subst this
      rw [hi]
      simp
theorem trimCR_eq : ∀ (l : List UInt8), Lib.trimSuffix l [13] = trimCR l := by
  have key : ∀ (l : List UInt8), trimCR l = if l.getLast? = some 13 then l.dropLast else l := by
    intro l
    induction l with
    | nil => rfl
    | cons c r ih =>
      cases r with
      | nil => by_cases hc : c = 13 <;> simp [trimCR, hc]
      | cons d r =>
        show c :: trimCR (d :: r) = _
        rw [ih]
        simp only [List.getLast?_cons_cons]
        split <;> simp
  intro l
  rw [key]
  unfold Lib.trimSuffix Lib.hasSuffix
  rcases List.eq_nil_or_concat l with rfl | ⟨o, y, rfl⟩
  · rfl
  · rw [List.concat_eq_append]
    have e1 : ([13] : List UInt8).isSuffixOf (o ++ [y]) = decide (y = 13) := by
      rw [Bool.eq_iff_iff, decide_eq_true_eq, List.isSuffixOf_iff_suffix]
      constructor
      · rintro ⟨t, ht⟩
        have := congrArg List.getLast? ht
        simp at this
        exact this.symm
      · rintro rfl; exact ⟨o, rfl⟩
    rw [e1]
    by_cases hy : y = 13
    · subst hy; simp
    · simp [hy]
/-- what the program makes of a line that begins as it must -/
theorem lineM_of {head rest : List UInt8} (hh : head.all isFld = true) (h : rest.take head.length = head.take rest.length) : lineM head rest = match progT rest with | .short => .short | .bad => .bad | .val t => .val (t.drop head.length) := by
  rw [progT_line hh h]
  unfold lineM
  by_cases hl : rest.length < head.length
  · rw [if_pos hl, if_pos hl]
    rw [List.take_of_length_le (by omega)] at h
    rw [if_pos h]
  · rw [if_neg hl, if_neg hl]
    rw [List.take_of_length_le (l := head) (by omega)] at h
    rw [if_pos h]
    cases scanT (rest.drop head.length) with
    | short => rfl
    | bad => rfl
    | val x =>
      show LineR.val x = .val ((head ++ x).drop head.length)
      rw [List.drop_left]
theorem lineM_no {head rest : List UInt8} (h : rest.take head.length ≠ head.take rest.length) : lineM head rest = .bad := by
  unfold lineM
  by_cases hl : rest.length < head.length
  · rw [if_pos hl, if_neg]
    intro e
    apply h
    rw [List.take_of_length_le (by omega)]
    exact e
  · rw [if_neg hl, if_neg]
    intro e
    apply h
    rw [List.take_of_length_le (l := head) (by omega)]
    exact e

theorem cut2_any (s : ByteArray) (w : World) (hE : Env w) (hs : s.size ≤ 4000000000) :
    Calls Tryz.prog 12 #[.string s, .string ⟨#[13, 10]⟩] w fun e w' => e = .returned (.tuple #[.string (bs (Lib.cut (L s) [13, 10]).1), .string (bs (Lib.cut (L s) [13, 10]).2.1), .bool (Lib.cut (L s) [13, 10]).2.2]) ∧ Below w.heap.size w w' := by
  obtain ⟨m, hm⟩ := hE.max
  refine (Tryz.strings_Cut s ⟨#[13, 10]⟩ m w (by omega) hm).mono ?_
  rintro e w' ⟨rfl, n, rfl⟩
  exact ⟨rfl, below_of_drewN n⟩
theorem trimCR_any (s : ByteArray) (w : World) (hs : s.size ≤ 4000000000) :
    Calls Tryz.prog 73 #[.string s, .string ⟨#[13]⟩] w fun e w' => e = .returned (.string (bs (trimCR (L s)))) ∧ w = w' := by
  refine (Tryz.strings_TrimSuffix s ⟨#[13]⟩ w (by omega)).mono ?_
  rintro e w' ⟨rfl, rfl⟩
  refine ⟨ret_str ?_, rfl⟩
  rw [← trimCR_eq]; rfl
theorem trimCR_le : ∀ (l : List UInt8), (trimCR l).length ≤ l.length
  | [] => Nat.le_refl _
  | [c] => by show (if c = 13 then [] else [c]).length ≤ 1; split <;> simp
  | c :: d :: r => by
    have := trimCR_le (d :: r)
    show (c :: trimCR (d :: r)).length ≤ _
    simp at this ⊢; omega
def lineV (r : LineR) (at_ N : Int) : Value := match r with
  | .short => .tuple #[.string ⟨#[]⟩, .int .i64 N, .int .i64 94]
  | .bad => .tuple #[.string ⟨#[]⟩, .int .i64 at_, .int .i64 93]
  | .val x => .tuple #[.string (bs x), .int .i64 0, .int .i64 0]

set_option maxRecDepth 100000 in
theorem line_any (g : Nat) (s hd : ByteArray) (n : Nat) (w : World) (hE : Env w) (hs : s.size ≤ 4000000000) (hh : (L hd).all isFld = true) (hhl : hd.size ≤ 1000) (hn : n ≤ s.size)
    (c0 : w.cell? ⟨g, 0, none⟩ = some (.string s)) (c1 : w.cell? ⟨g, 1, none⟩ = some (.int .i64 n)) (hg : g < w.heap.size) :
    Calls Tryz.prog 51 #[.pointer (some ⟨g, 0, none⟩), .string hd] w fun e w' => e = .returned (lineV (lineM (L hd) ((L s).drop n)) n s.size) ∧ Below w.heap.size w w' := by
  have HE := Lib.hid hE; clear hE
  have HH := Lib.hid hh; clear hh
  obtain ⟨V, hV⟩ := name_it (lineV (lineM (L hd) ((L s).drop n)) n s.size)
  rw [hV.out]
  have hx : s.extract n s.size = bs ((L s).drop n) := extract_tail s n
  have hrl : ((L s).drop n).length = s.size - n := by rw [List.length_drop, L_length]
  obtain ⟨r, hr⟩ := name_it ((L s).drop n)
  rw [hr.out] at hx hrl hV
  obtain ⟨q, hq⟩ := name_it (bs r)
  have hqL : Hid (L q = r) := by rw [← hq.out]; exact L_bs r
  have hqs : r.length = q.size := by rw [← hq.out, size_bs]
  rw [hq.out] at hx
  have HX := Lib.hid hx
  have b1 : (0 : Int) ≤ (n : Int) := by omega
  have b2 : (n : Int) ≤ (s.size : Int) := by omega
  obtain ⟨k, hk⟩ : ∃ k : Nat, k = min q.size hd.size := ⟨_, rfl⟩
  have hkq : k ≤ q.size := by omega
  have hkh : k ≤ hd.size := by omega
  have hmin : min (q.size : Int) (hd.size : Int) = (k : Int) := by omega
  have b3 : (0 : Int) ≤ (k : Int) := by omega
  have b4 : (k : Int) ≤ (q.size : Int) := by omega
  have b5 : (k : Int) ≤ (hd.size : Int) := by omega
  have hcmp : ((q.extract 0 k).toList == (hd.extract 0 k).toList) = decide (r.take (L hd).length = (L hd).take r.length) := by
    rw [str_eq, extract_head, extract_head, L_bs, L_bs, hqL.out, L_length, hqs]
    rw [Bool.eq_iff_iff, decide_eq_true_eq, decide_eq_true_eq]
    rcases Nat.le_total q.size hd.size with h | h
    · have hk1 : k = q.size := by omega
      subst hk1
      rw [List.take_of_length_le (l := r) (i := hd.size) (by omega), List.take_of_length_le (l := r) (by omega)]
    · have hk1 : k = hd.size := by omega
      subst hk1
      rw [List.take_of_length_le (l := L hd) (i := hd.size) (by rw [L_length]; exact Nat.le_refl _), List.take_of_length_le (l := L hd) (i := q.size) (by rw [L_length]; omega)]
  clear hx hq hk hr
  by_cases hp : r.take (L hd).length = (L hd).take r.length
  case neg =>
    have hv : Hid (V = .tuple #[.string ⟨#[]⟩, .int .i64 n, .int .i64 93]) := by rw [← hV.out]; unfold Hid; rw [lineM_no hp]; rfl
    rw [decide_eq_false hp] at hcmp
    clear hV hp
    go_enter Tryz.func51, Tryz.ntmps51
    go_wp2_with fail
    go_quiet (fail)
    rw [HX.out]
    go_wp2_with fail
    go_quiet (fail)
    go_wp2_with fail
    go_quiet (fail)
    go_wp2_with fail
    go_ret3
    exact ⟨by rw [hv.out]; rfl, below_drewN (below_drewN (below_drewN (Below.refl _ _) _) _) _⟩
  case pos =>
    rw [decide_eq_true hp] at hcmp
    have hlm := lineM_of HH.out hp
    have hct := fun wx hx => cut2_any q wx hx (by omega)
    have htr := fun wx => trimCR_any (bs r) wx (by rw [size_bs]; omega)
    have hlc := lib_cut2 r
    rw [hqL.out, hlc] at hct
    rw [L_bs] at htr
    unfold progT at hlm
    cases hcr : crlfAt r with
    | none =>
      rw [hcr] at hct hlm
      simp only [] at hct hlm
      have htl := trimCR_le r
      have hif := fun wx => isfield_any (bs (trimCR r)) wx (by rw [size_bs]; unfold maxLen; omega)
      rw [L_bs] at hif
      obtain ⟨f, hf⟩ := name_it ((trimCR r).all isFld)
      rw [hf.out] at hif hlm
      have HCT := Lib.hid hct
      have HTR := Lib.hid htr
      have HIF := Lib.hid hif
      clear hct htr hif hlc hp htl hcr
      cases f
      · have hv : Hid (V = .tuple #[.string ⟨#[]⟩, .int .i64 n, .int .i64 93]) := by
          rw [if_neg (by decide)] at hlm
          rw [← hV.out]; unfold Hid; rw [hlm]; rfl
        clear hV hlm
        go_enter Tryz.func51, Tryz.ntmps51
        go_wp2_with fail
        go_quiet (fail)
        rw [HX.out]
        go_wp2_with fail
        go_quiet (fail)
        go_wp2_with fail
        refine (HCT.out _ (HE.out.next (below_drewN (Below.refl _ _) _))).mono ?_; rintro e w1 ⟨rfl, hb1⟩
        have d1 := (below_drewN (Below.refl w.heap.size w) _).trans hb1
        have x0 := (d1.cell (p := ⟨g, 0, none⟩) hg).trans c0
        have x1 := (d1.cell (p := ⟨g, 1, none⟩) hg).trans c1
        clear hb1
        go_wp2_with (first | (go_at_call 73; refine (HTR.out _).mono ?_; rintro e w' ⟨rfl, rfl⟩) | (go_at_call 25; refine (HIF.out _).mono ?_; rintro e w' ⟨rfl, rfl⟩))
        go_quiet (fail)
        go_wp2_with fail
        go_ret3
        exact ⟨by rw [hv.out]; rfl, below_drewN d1 _⟩
      · have hv : Hid (V = .tuple #[.string ⟨#[]⟩, .int .i64 s.size, .int .i64 94]) := by
          rw [if_pos rfl] at hlm
          rw [← hV.out]; unfold Hid; rw [hlm]; rfl
        clear hV hlm
        go_enter Tryz.func51, Tryz.ntmps51
        go_wp2_with fail
        go_quiet (fail)
        rw [HX.out]
        go_wp2_with fail
        go_quiet (fail)
        go_wp2_with fail
        refine (HCT.out _ (HE.out.next (below_drewN (Below.refl _ _) _))).mono ?_; rintro e w1 ⟨rfl, hb1⟩
        have d1 := (below_drewN (Below.refl w.heap.size w) _).trans hb1
        have x0 := (d1.cell (p := ⟨g, 0, none⟩) hg).trans c0
        have x1 := (d1.cell (p := ⟨g, 1, none⟩) hg).trans c1
        clear hb1
        go_wp2_with (first | (go_at_call 73; refine (HTR.out _).mono ?_; rintro e w' ⟨rfl, rfl⟩) | (go_at_call 25; refine (HIF.out _).mono ?_; rintro e w' ⟨rfl, rfl⟩))
        go_quiet (fail)
        go_wp2_with fail
        go_ret3
        exact ⟨by rw [hv.out]; rfl, below_drewN d1 _⟩
    | some j =>
      rw [hcr] at hct hlm
      simp only [] at hct hlm
      have hj := (crlf_some hcr).2.2
      have hif := fun wx => isfield_any (bs (r.take j)) wx (by rw [size_bs, List.length_take]; unfold maxLen; omega)
      rw [L_bs] at hif
      have htl : (r.take j).length ≤ q.size := by rw [List.length_take]; omega
      obtain ⟨t, ht⟩ := name_it (r.take j)
      obtain ⟨u, hu⟩ := name_it (r.drop (j + 2))
      rw [ht.out] at hif hlm hct htl
      rw [hu.out] at hct
      obtain ⟨f, hf⟩ := name_it (t.all isFld)
      rw [hf.out] at hif hlm
      have hpl := progT_line HH.out hp
      unfold progT at hpl
      rw [hcr] at hpl
      simp only [] at hpl
      rw [ht.out, hf.out] at hpl
      have HCT := Lib.hid hct
      have HIF := Lib.hid hif
      clear hct htr hif hlc hcr
      cases f
      · have hv : Hid (V = .tuple #[.string ⟨#[]⟩, .int .i64 n, .int .i64 93]) := by
          rw [if_neg (by decide)] at hlm
          rw [← hV.out]; unfold Hid; rw [hlm]; rfl
        clear hV hlm hp hpl
        go_enter Tryz.func51, Tryz.ntmps51
        go_wp2_with fail
        go_quiet (fail)
        rw [HX.out]
        go_wp2_with fail
        go_quiet (fail)
        go_wp2_with fail
        refine (HCT.out _ (HE.out.next (below_drewN (Below.refl _ _) _))).mono ?_; rintro e w1 ⟨rfl, hb1⟩
        have d1 := (below_drewN (Below.refl w.heap.size w) _).trans hb1
        have x0 := (d1.cell (p := ⟨g, 0, none⟩) hg).trans c0
        have x1 := (d1.cell (p := ⟨g, 1, none⟩) hg).trans c1
        clear hb1
        go_wp2_with (go_at_call 25; refine (HIF.out _).mono ?_; rintro e w' ⟨rfl, rfl⟩)
        go_quiet (fail)
        go_wp2_with fail
        go_ret3
        exact ⟨by rw [hv.out]; rfl, below_drewN d1 _⟩
      · have hv : Hid (V = .tuple #[.string (bs (t.drop (L hd).length)), .int .i64 0, .int .i64 0]) := by
          rw [if_pos rfl] at hlm
          rw [← hV.out]; unfold Hid; rw [hlm]; rfl
        have hth : hd.size ≤ t.length := by
          rw [if_pos rfl] at hpl
          split at hpl
          · cases hpl
          · cases hsc : scanT (r.drop (L hd).length) with
            | short => rw [hsc] at hpl; cases hpl
            | bad => rw [hsc] at hpl; cases hpl
            | val x =>
              rw [hsc] at hpl
              have hpl2 : LineR.val t = .val (L hd ++ x) := hpl
              injection hpl2 with hpl3
              rw [hpl3, List.length_append, L_length]; omega
        have hdr : (bs t).extract hd.size t.length = bs (t.drop (L hd).length) := by
          have := extract_tail (bs t) hd.size
          rw [size_bs, L_bs] at this
          rw [this, L_length]
        have HDR := Lib.hid hdr
        clear hV hlm hp hdr hpl
        go_enter Tryz.func51, Tryz.ntmps51
        go_wp2_with fail
        go_quiet (fail)
        rw [HX.out]
        go_wp2_with fail
        go_quiet (fail)
        go_wp2_with fail
        refine (HCT.out _ (HE.out.next (below_drewN (Below.refl _ _) _))).mono ?_; rintro e w1 ⟨rfl, hb1⟩
        have d1 := (below_drewN (Below.refl w.heap.size w) _).trans hb1
        clear hb1
        go_wp2_with (go_at_call 25; refine (HIF.out _).mono ?_; rintro e w' ⟨rfl, rfl⟩)
        all_goals (try (exfalso; omega))
        go_ret3
        exact ⟨by rw [hv.out, ← HDR.out]; rfl, d1⟩
end Go.Proofs.YtnodboggemggmaaGreatDoor
