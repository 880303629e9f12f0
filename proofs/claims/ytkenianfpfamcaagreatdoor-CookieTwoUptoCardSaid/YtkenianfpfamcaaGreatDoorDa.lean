/- Contracts of the document's cookie: may it be one, paths, domains, halves. Contracts of the document's cookie: halves. Contracts of the document's cookie: a text cut at a byte. What a client sent, piece after piece: plain. Cookies as a client sends them: plain. Rows of cookies: the law's plain, the law's same. -/
import Derived.Test.YtkenianfpfamcaaGreatDoorMo
import Derived.Test.YtkenianfpfamcaaGreatDoorMg
import Derived.BigQuiet
import Derived.Test.YtkenianfpfamcaaGreatDoorMb
import Derived.Test.YtkenianfpfamcaaGreatDoorCookVJ
import Derived.Test.YtkenianfpfamcaaGreatDoorCookWJ
import Derived.Test.YtkenianfpfamcaaGreatDoorMn
import Derived.Deep.DeepCutAuto
import Derived.Deep.CutBlock
namespace Go.Proofs.YtkenianfpfamcaaGreatDoor
open Go Go.RowKit
set_option maxHeartbeats 4000000

abbrev tRk : TypeId := 34
set_option maxRecDepth 100000 in
theorem rright_any (n v : ByteArray) (w : World) (hn : n.size ≤ 1073741824) (hv : v.size ≤ 1073741824) : Calls Tryz.prog 16 #[.agg #[.string n, .string v]] w fun e w' => e = .returned (.bool (rightC (L n) (L v))) ∧ Below w.heap.size w w' := by
  obtain ⟨R, hR⟩ := name_it (rightC (L n) (L v))
  rw [hR.out]
  have hr := hR.out
  unfold rightC at hr
  rw [L_length, L_length] at hr
  have K1 := Lib.hid (CellsAt.first w [.string n, .string v] tRk)
  have B1 := Lib.hid (below_put2 (w := w) (cs := #[.string n, .string v]) (T := tRk))
  have H1 := Lib.hid (ristoken_any n (w.alloc (.cells #[.string n, .string v] tRk)) hn)
  have H2 := Lib.hid (fun wx => risvalue_any v wx (by unfold maxLen; omega))
  have hr : (tokC (L n) && (valC (L v) && decide (n.size + v.size ≤ 4096))) = R := hr
  have H1 : Hid (Calls Tryz.prog 40 #[.string n] (w.alloc (.cells #[.string n, .string v] tRk)) fun e w' => e = .returned (.bool (tokC (L n))) ∧ Below (w.alloc (.cells #[.string n, .string v] tRk)).heap.size (w.alloc (.cells #[.string n, .string v] tRk)) w') := H1
  clear hR
  obtain ⟨A, hA⟩ := name_it (tokC (L n))
  obtain ⟨B, hB⟩ := name_it (valC (L v))
  rw [hA.out] at hr H1
  rw [hB.out] at hr H2
  have k0 := K1.out.at 0 _ rfl
  have k1 := K1.out.at 1 _ rfl
  clear hA hB
  cases A with
  | false =>
    have HR := Lib.hid hr
    clear hr
    go_enter Tryz.func16, Tryz.ntmps16
    go_wp2_with fail
    generalize w.alloc _ = w1 at *
    refine H1.out.mono ?_; rintro e w2 ⟨rfl, hb2⟩
    have D2 := Lib.hid (B1.out.trans (hb2.mono B1.out.size))
    go_wp2_with fail
    go_ret
    exact ⟨ret_bool HR.out, D2.out⟩
  | true =>
    cases B with
    | false =>
      have HR := Lib.hid hr
      clear hr
      go_enter Tryz.func16, Tryz.ntmps16
      go_wp2_with fail
      generalize w.alloc _ = w1 at *
      refine H1.out.mono ?_; rintro e w2 ⟨rfl, hb2⟩
      have D2 := Lib.hid (B1.out.trans (hb2.mono B1.out.size))
      have K2 := Lib.hid (K1.out.next hb2)
      clear k0 k1 K1 B1 H1 hb2
      have k0 := K2.out.at 0 _ rfl
      have k1 := K2.out.at 1 _ rfl
      go_wp2_with fail
      refine (H2.out _).mono ?_; rintro e w' ⟨rfl, rfl⟩
      go_wp2_with fail
      go_ret
      exact ⟨ret_bool HR.out, D2.out⟩
    | true =>
      have HR : Hid (decide ((n.size : Int) + v.size ≤ 4096) = R) := by
        rw [← hr]; unfold Hid
        rw [Bool.eq_iff_iff]; simp; omega
      clear hr
      go_enter Tryz.func16, Tryz.ntmps16
      go_wp2_with fail
      generalize w.alloc _ = w1 at *
      refine H1.out.mono ?_; rintro e w2 ⟨rfl, hb2⟩
      have D2 := Lib.hid (B1.out.trans (hb2.mono B1.out.size))
      have K2 := Lib.hid (K1.out.next hb2)
      clear k0 k1 K1 B1 H1 hb2
      have k0 := K2.out.at 0 _ rfl
      have k1 := K2.out.at 1 _ rfl
      go_wp2_with fail
      refine (H2.out _).mono ?_; rintro e w' ⟨rfl, rfl⟩
      go_wp2_with fail
      all_goals (try (exfalso; omega))
      go_ret
      exact ⟨ret_bool HR.out, D2.out⟩
set_option maxRecDepth 100000 in
theorem rispath_any (s : ByteArray) (w : World) (hs : s.size ≤ maxLen) : Calls Tryz.prog 45 #[.string s] w fun e w' => e = .returned (.bool (pathC (L s))) ∧ w = w' := by
  unfold maxLen at hs
  have HR0 : Hid (pathC (L s) = ((L s).all pathB && decide ((L s).head? = some 47))) := rfl
  rw [HR0.out]
  clear HR0
  obtain ⟨A, hA⟩ := name_it ((L s).all pathB)
  obtain ⟨B, hB⟩ := name_it (decide ((L s).head? = some 47))
  rw [hA.out, hB.out]
  go_enter Tryz.func45, Tryz.ntmps45
  go_wp2_with fail
  go_loop [3] (fun i => ∃ k : Nat, k ≤ s.size ∧ i = .int .i64 k ∧ Hid (((L s).drop k).all pathB = A)) (fun i => s.size - (intOf i).toNat)
  case atStart => exact ⟨0, Nat.zero_le _, rfl, hA⟩
  clear hA
  case round =>
    obtain ⟨k, hk, rfl, hr⟩ := hrel
    by_cases hlt : k < s.size
    · have hi := pathB_iff s[k]
      cases hb : pathB s[k]
      · have hr2 := hr.out
        rw [L_drop hlt, List.all_cons, hb] at hr2
        rw [hb] at hi
        have HI : Hid (¬ (33 ≤ s[k].toNat ∧ s[k].toNat ≤ 126 ∧ s[k].toNat ≠ 59)) := fun h => by have := hi.2 h; cases this
        have HR : Hid (A = false) := by rw [← hr2]; rfl
        clear hr2 hr hi hb hB
        go_wp2_with fail
        all_goals (try (exfalso; have := HI.out; (try simp only [beq_eq_false_iff_ne, ne_eq] at *); omega))
        all_goals
          go_ret
          exact ⟨ret_bool (by rw [HR.out, Bool.false_and]), rfl⟩
      · have hr2 := hr.out
        rw [L_drop hlt, List.all_cons, hb] at hr2
        obtain ⟨i1, i2, i3⟩ := hi.1 hb
        have HR := Lib.hid hr2; clear hr2 hr hi hb hB
        go_wp2_with fail
        all_goals (try (exfalso; omega))
        go_round
        case rel => exact ⟨k + 1, by omega, by go_num, Lib.hid (by have h := HR.out; simpa using h)⟩
        case measure => simp [intOf]; omega
    · obtain rfl : k = s.size := by omega
      rw [L_drop_all] at hr
      have HR : Hid (A = true) := hr.out.symm
      clear hr
      have hE := str_empty s
      by_cases hz : s.size = 0
      · have hn : L s = [] := List.eq_nil_of_length_eq_zero (by rw [L_length]; exact hz)
        have HF : Hid (B = false) := by rw [← hB.out, hn]; rfl
        have hE2 : s.toList.isEmpty = true := by rw [hE, hn]; rfl
        clear hB hE hn
        go_wp2_with fail
        all_goals (try (exfalso; omega))
        all_goals
          go_ret
          exact ⟨ret_bool (by rw [HF.out, Bool.and_false]), rfl⟩
      · have hn : L s ≠ [] := fun e => hz (by rw [← L_length, e]; rfl)
        have hE2 : s.toList.isEmpty = false := by rw [hE]; exact decide_eq_false hn
        have HF : Hid (B = (((s[0]'(by omega)).toNat : Int) == 47)) := by
          unfold Hid
          rw [← hB.out]
          have := head_get s 47 (by omega)
          rw [decide_not] at this
          exact Bool.not_inj this
        clear hB hE hn
        go_wp2_with fail
        all_goals (try (exfalso; omega))
        all_goals
          go_ret
          exact ⟨ret_bool (by rw [HR.out, HF.out, Bool.true_and]), rfl⟩
set_option maxRecDepth 100000 in
theorem risdomain_any (s : ByteArray) (w : World) (hs : s.size ≤ maxLen) : Calls Tryz.prog 46 #[.string s] w fun e w' => e = .returned (.bool (domC (L s))) ∧ w = w' := by
  unfold maxLen at hs
  have HR0 : Hid (domC (L s) = ((L s).all domB && (decide (L s ≠ []) && (decide ((L s).length ≤ 255) && decide ((L s).head? ≠ some 46))))) := rfl
  rw [HR0.out]
  clear HR0
  obtain ⟨A, hA⟩ := name_it ((L s).all domB)
  obtain ⟨B, hB⟩ := name_it (decide (L s ≠ []) && (decide ((L s).length ≤ 255) && decide ((L s).head? ≠ some 46)))
  rw [hA.out, hB.out]
  go_enter Tryz.func46, Tryz.ntmps46
  go_wp2_with fail
  go_loop [3, 4] (fun i _ => ∃ k : Nat, k ≤ s.size ∧ i = .int .i64 k ∧ Hid (((L s).drop k).all domB = A)) (fun i _ => s.size - (intOf i).toNat)
  case atStart => exact ⟨0, Nat.zero_le _, rfl, hA⟩
  clear hA
  case round =>
    obtain ⟨k, hk, rfl, hr⟩ := hrel
    by_cases hlt : k < s.size
    · have hi := domB_iff s[k]
      cases hb : domB s[k]
      · have hr2 := hr.out
        rw [L_drop hlt, List.all_cons, hb] at hr2
        rw [hb] at hi
        have HI : Hid (¬ ((97 ≤ s[k].toNat ∧ s[k].toNat ≤ 122) ∨ (48 ≤ s[k].toNat ∧ s[k].toNat ≤ 57) ∨ s[k].toNat = 45 ∨ s[k].toNat = 46)) := fun h => by have := hi.2 h; cases this
        have HR : Hid (A = false) := by rw [← hr2]; rfl
        clear hr2 hr hi hb hB
        go_wp2_with fail
        all_goals (try (exfalso; have := HI.out; (try simp only [Bool.not_eq_false', Bool.not_eq_true', beq_iff_eq, beq_eq_false_iff_ne, ne_eq] at *); omega))
        all_goals
          go_ret
          exact ⟨ret_bool (by rw [HR.out, Bool.false_and]), rfl⟩
      · have hr2 := hr.out
        rw [L_drop hlt, List.all_cons, hb] at hr2
        have HI := Lib.hid (hi.1 hb)
        have HR := Lib.hid hr2; clear hr2 hr hi hb
        go_wp2_with fail
        all_goals (try (exfalso; have := HI.out; (try simp only [Bool.not_eq_false', Bool.not_eq_true', beq_iff_eq, beq_eq_false_iff_ne, ne_eq] at *); omega))
        all_goals
          first
          | exact ⟨⟨k + 1, by omega, by go_num, Lib.hid (by have h := HR.out; simpa using h)⟩, by simp [intOf]; omega⟩
          | (go_round
             case rel => exact ⟨k + 1, by omega, by go_num, Lib.hid (by have h := HR.out; simpa using h)⟩
             case measure => simp [intOf]; omega)
    · obtain rfl : k = s.size := by omega
      rw [L_drop_all] at hr
      have HR : Hid (A = true) := hr.out.symm
      clear hr
      by_cases hz : s.size = 0
      · have hn : L s = [] := List.eq_nil_of_length_eq_zero (by rw [L_length]; exact hz)
        have HF : Hid (B = false) := by rw [← hB.out, hn]; rfl
        clear hB hn
        go_wp2_with fail
        all_goals (try (exfalso; omega))
        all_goals
          go_ret
          exact ⟨ret_bool (by rw [HF.out, Bool.and_false]), rfl⟩
      · have hn : L s ≠ [] := fun e => hz (by rw [← L_length, e]; rfl)
        have HF : Hid (B = (decide (s.size ≤ 255) && !(((s[0]'(by omega)).toNat : Int) == 46))) := by
          unfold Hid
          rw [← hB.out, head_get s 46 (by omega), L_length, decide_eq_true hn, Bool.true_and]; rfl
        have hz1 : 1 ≤ s.size := by omega
        clear hB hn
        by_cases h255 : s.size ≤ 255
        · rw [decide_eq_true h255, Bool.true_and] at HF
          go_wp2_with fail
          all_goals (try (exfalso; omega))
          all_goals
            go_ret
            exact ⟨ret_bool (by rw [HR.out, HF.out, Bool.true_and]; rfl), rfl⟩
        · rw [decide_eq_false h255, Bool.false_and] at HF
          go_wp2_with fail
          all_goals (try (exfalso; omega))
          all_goals
            go_ret
            exact ⟨ret_bool (by rw [HF.out, Bool.and_false]), rfl⟩
end Go.Proofs.YtkenianfpfamcaaGreatDoor
namespace Go.Proofs.YtkenianfpfamcaaGreatDoor
open Go Go.RowKit
set_option maxHeartbeats 4000000

end Go.Proofs.YtkenianfpfamcaaGreatDoor
namespace Go.Proofs.YtkenianfpfamcaaGreatDoor
open Go Go.RowKit
set_option maxHeartbeats 4000000

structure CutAt (c : UInt8) (s : List UInt8) (k a : Nat) (xs : List (List UInt8)) : Prop where
  le : a ≤ k
  eq : splitC c s = xs ++ splitC c (s.drop a)
  no : ∀ d ∈ (s.take k).drop a, d ≠ c
theorem CutAt.len {c : UInt8} {s : List UInt8} {k a : Nat} {xs : List (List UInt8)} (h : CutAt c s k a xs) : xs.length ≤ s.length + 1 := by
  have := splitC_length c s
  rw [h.eq, List.length_append] at this
  omega
theorem CutAt.hit {c : UInt8} {s : List UInt8} {k a : Nat} {xs : List (List UInt8)} (h : CutAt c s k a xs) (hk : k < s.length) (hc : s[k] = c) : CutAt c s (k + 1) (k + 1) (xs ++ [(s.take k).drop a]) where
  le := Nat.le_refl _
  eq := by
    have e : s.drop a = (s.take k).drop a ++ c :: s.drop (k + 1) := by
      have h1 : s = s.take k ++ c :: s.drop (k + 1) := by
        rw [← hc, ← List.drop_eq_getElem_cons hk, List.take_append_drop]
      have h2 : s.drop a = (s.take k ++ c :: s.drop (k + 1)).drop a := by rw [← h1]
      rw [h2, List.drop_append_of_le_length (by rw [List.length_take]; have := h.le; omega)]
    rw [h.eq, e, splitC_no _ h.no]
    simp
  no := by
    intro d hd
    have : (s.take (k + 1)).drop (k + 1) = [] := List.drop_eq_nil_of_le (by rw [List.length_take]; omega)
    rw [this] at hd; cases hd
theorem CutAt.end {c : UInt8} {s : List UInt8} {a : Nat} {xs : List (List UInt8)} (h : CutAt c s s.length a xs) : xs ++ [(s.take s.length).drop a] = splitC c s := by
  have hno := h.no
  rw [List.take_length] at hno ⊢
  rw [h.eq, splitC_end hno]
end Go.Proofs.YtkenianfpfamcaaGreatDoor
namespace Go.Proofs.YtkenianfpfamcaaGreatDoor
open Go Go.RowKit

end Go.Proofs.YtkenianfpfamcaaGreatDoor
namespace Go.Proofs.YtkenianfpfamcaaGreatDoor
open Go Go.RowKit

end Go.Proofs.YtkenianfpfamcaaGreatDoor
namespace Go.Proofs.YtkenianfpfamcaaGreatDoor
open Go Go.RowKit
set_option maxHeartbeats 4000000

abbrev tRks : TypeId := 31
theorem infoRk : (Tryz.prog.info? tRk).map (fun i => (i.zero, i.size, i.bytes)) = some (some (.agg #[.string ⟨#[]⟩, .string ⟨#[]⟩]), 2, 32) := by kernel_rfl
/-- the document's cookies in a row of a call's own -/
def RkRow (w : World) (base : Nat) (v : Value) (l : List Ck) : Prop := w.ownsRow base tRk 2 v l.length (rowC l)
/-- cookies that a slice holds, whoever made it -/
structure Cks (w : World) (p : Option Addr) (l : List Ck) : Prop where
  mem : l = [] ∨ ∃ g off, p = some ⟨g, off, none⟩ ∧ g < w.heap.size ∧ ∀ k (hk : k < l.length), w.cell? ⟨g, off + k * 2, none⟩ = some (.string (bs l[k].1)) ∧ w.cell? ⟨g, off + k * 2 + 1, none⟩ = some (.string (bs l[k].2))
theorem rowC_get (l : List Ck) (k : Nat) (hk : k < l.length) : (rowC l)[2 * k]? = some (.string (bs l[k].1)) ∧ (rowC l)[2 * k + 1]? = some (.string (bs l[k].2)) := by
  induction l generalizing k with
  | nil => cases hk
  | cons c l ih =>
    have e : rowC (c :: l) = .string (bs c.1) :: .string (bs c.2) :: rowC l := rfl
    rw [e]
    cases k with
    | zero => exact ⟨rfl, rfl⟩
    | succ k =>
      obtain ⟨h1, h2⟩ := ih k (by simpa using hk)
      have e1 : 2 * (k + 1) = 2 * k + 1 + 1 := by omega
      rw [e1]
      exact ⟨by simpa using h1, by simpa using h2⟩
theorem row_cks {w : World} {base cap : Nat} {T : TypeId} {p : Option Addr} {l : List Ck} (h : w.ownsRow base T 2 (.slice p l.length cap) l.length (rowC l)) : Cks w p l := by
  constructor
  rcases h.2 with ⟨_, h0⟩ | ⟨g, cap', cur, hv, hrest⟩
  · exact Or.inl (List.eq_nil_of_length_eq_zero h0)
  · injection hv with hv h1 h2
    subst hv
    have hlt := World.ownsRow.lt h g rfl
    refine Or.inr ⟨g, 0, rfl, hlt.2, fun k hk => ?_⟩
    obtain ⟨g1, g2⟩ := rowC_get l k hk
    rw [Nat.zero_add, Nat.mul_comm k 2, h.cellAt (2 * k) (by omega), h.cellAt (2 * k + 1) (by omega)]
    exact ⟨g1, g2⟩
theorem Cks.next {w w' : World} {p : Option Addr} {l : List Ck} (h : Cks w p l) (hb : Below w.heap.size w w') : Cks w' p l := by
  constructor
  rcases h.mem with h | ⟨g, off, h1, h2, h3⟩
  · exact Or.inl h
  · exact Or.inr ⟨g, off, h1, Nat.lt_of_lt_of_le h2 hb.size, fun k hk => by rw [hb.cell (p := ⟨g, off + k * 2, none⟩) h2, hb.cell (p := ⟨g, off + k * 2 + 1, none⟩) h2]; exact h3 k hk⟩
theorem Cks.get {w : World} {p : Option Addr} {l : List Ck} (h : Cks w p l) (k : Nat) (hk : k < l.length) : ∃ g off, p = some ⟨g, off, none⟩ ∧ g < w.heap.size ∧ w.cell? ⟨g, off + k * 2, none⟩ = some (.string (bs l[k].1)) ∧ w.cell? ⟨g, off + k * 2 + 1, none⟩ = some (.string (bs l[k].2)) := by
  rcases h.mem with h | ⟨g, off, h1, h2, h3⟩
  · rw [h] at hk; cases hk
  · exact ⟨g, off, h1, h2, h3 k hk⟩
/-- 'append(v, x)', x a struct of two cells, v of the call's own -/
theorem append2 {P : Program} {w : World} {ops : Array Oper} {rest : List Oper} {o : Oper} {a : Act} {Q : Exit → Act → World → Prop} (hgd : o.guard = none) (s x : Operand) (t : TypeId)
    (ho : o.op = .call { callee := .builtin .append, args := #[s, x], argTypes := #[t, t] })
    (base : Nat) (e : TypeId) (i : TypeInfo) (z : Value) (bytes : Nat) (ht : P.underlying t = some (.slice e)) (hi : P.info? e = some i) (hz : i.zero = some z)
    (hsize : i.size = 2) (hby : i.bytes = bytes) (hzs : z.cells.size = 2)
    {v : Value} {n : Nat} {xs : List Value} (hown : w.ownsRow base e 2 v n xs) (hs : a.eval s = v)
    (u1 u2 : Value) (hu1 : u1.oneCell' = true) (hu2 : u2.oneCell' = true) (hx : a.eval x = .slice (some ⟨w.heap.size, 0, none⟩) 1 1)
    (hn : n + 1 ≤ maxLen) (hbytes : (n + 1) * bytes ≤ 140737488355328) (hbase : base ≤ w.heap.size)
    (h : ∀ g cap w', base ≤ g → w'.ownsRow base e 2 (.slice (some ⟨g, 0, none⟩) (n + 1) cap) (n + 1) (xs ++ [u1, u2]) → Below base w w' → wpList P ops Q rest (a.put o.dst (.slice (some ⟨g, 0, none⟩) (n + 1) cap)) w') :
    wpList P ops Q (o :: rest) a (w.alloc (.cells #[u1, u2] e)) := by
  have hw : base ≤ (w.alloc (.cells #[u1, u2] e)).heap.size := by
    show base ≤ (w.heap.push _).size
    rw [Array.size_push]; omega
  refine wpList_append_own (w.alloc (.cells #[u1, u2] e)) hgd s x t ho base e i z 2 bytes ht hi hz hsize hby hzs (by decide) v n xs hs (hown.alloc _) ⟨w.heap.size, 0, none⟩ 1 1 [u1, u2] hx rfl ?_ ?_ hn hbytes hw ?_
  · intro j y hj
    match j, hj with
    | 0, hj =>
      simp at hj; subst hj
      rw [Addr.add_lit]
      exact World.cell?_alloc_mark w #[u1, u2] e (0, 0) 0
    | 1, hj =>
      simp at hj; subst hj
      rw [Addr.add_lit]
      exact World.cell?_alloc_mark w #[u1, u2] e (0, 0) 1
  · intro y hy
    rcases List.mem_cons.1 hy with rfl | hy
    · exact hu1
    · rw [List.mem_singleton] at hy; subst hy; exact hu2
  · intro v' w' hown' hgrow _
    rcases hown'.2 with ⟨_, h0⟩ | ⟨g, cap, cur, rfl, hg, _⟩
    · omega
    · exact h g cap w' hg hown' (((Below.refl _ _).alloc hbase _).trans (own_below (hown.alloc _) hgrow hw))
set_option maxRecDepth 100000 in
theorem plain_law (w : World) (p : Option Addr) (cap : Nat) (l : List Ck) (hC : Cks w p l) (hl : l.length ≤ 1073741825) :
    Calls Tryz.prog 14 #[.slice p l.length cap] w fun e w' => (∃ v, e = .returned v ∧ RkRow w' w.heap.size v l) ∧ Below w.heap.size w w' := by
  have HC := Lib.hid hC
  clear hC
  obtain ⟨i1, ci, cz0, cz1, cz2⟩ := info_parts infoRk
  go_enter Tryz.func14, Tryz.ntmps14
  go_wp2_with fail
  have Q0 : Hid (w.ownsRow w.heap.size tRk 2 (.slice none 0 0) (l.take 0).length (rowC (l.take 0))) := World.ownsRow_nil ..
  go_loopw [3, 5, 8] (fun out _ i wr => ∃ k : Nat, k ≤ l.length ∧ i = .int .i64 k ∧ Hid (wr.ownsRow w.heap.size tRk 2 out (l.take k).length (rowC (l.take k))) ∧ Hid (Below w.heap.size w wr)) (fun _ _ i _ => l.length - (intOf i).toNat)
  case atStart => exact ⟨0, Nat.zero_le _, rfl, Q0, Below.refl _ _⟩
  clear Q0
  case round =>
    obtain ⟨k, hk, rfl, hQ, hB⟩ := hrel
    obtain ⟨wq, hwq⟩ : ∃ wq, wq = wr := ⟨wr, rfl⟩
    subst hwq
    by_cases hlt : k < l.length
    · obtain ⟨g, og, rfl, hg, c0, c1⟩ := (HC.out.next hB.out).get k hlt
      have HSK : Hid (l.take (k + 1) = l.take k ++ [l[k]]) := List.take_succ_eq_append_getElem hlt
      have HLK : Hid ((l.take k).length = k) := by unfold Hid; rw [List.length_take]; omega
      have BD := Lib.hid (hB.out.trans ((Below.refl wq.heap.size wq).drew.mono hB.out.size))
      obtain ⟨c, hc⟩ := name_it l[k]
      rw [hc.out] at c0 c1 HSK
      obtain ⟨acc, hacc⟩ := name_it (l.take k)
      rw [hacc.out] at hQ HSK HLK
      obtain ⟨so2, co2, hout2⟩ := row_slice hQ.out
      subst hout2
      clear hc hacc
      go_upto_region 5 with fail
      all_goals (try (exfalso; omega))
      have KC := Lib.hid (CellsAt.first wq [.string (bs c.1), .string (bs c.2)] tCk)
      have QD := Lib.hid (hQ.out.alloc (.cells #[.string (bs c.1), .string (bs c.2)] tCk))
      have BD := Lib.hid (hB.out.alloc hB.out.size (.cells #[.string (bs c.1), .string (bs c.2)] tCk))
      have hBd := BD.out.size
      have z0 := KC.out.at 0 _ rfl
      have z1 := KC.out.at 1 _ rfl
      clear c0 c1
      generalize wq.alloc _ = w5 at *
      go_wp2_with (at_builtin; refine append2 (by rfl) _ _ tRks (by rfl) w.heap.size tRk i1 (.agg #[.string ⟨#[]⟩, .string ⟨#[]⟩]) 32 Tryz.underlying31 ci cz0 cz1 cz2 rfl QD.out (by rfl) (.string (bs c.1)) (.string (bs c.2)) rfl rfl (by rfl) (by have := HLK.out; unfold maxLen; omega) (by have := HLK.out; omega) hBd ?_)
      intro g7 cap7 w7 hg7 hown7 hb7
      have Q7 : Hid (w7.ownsRow w.heap.size tRk 2 (.slice (some ⟨g7, 0, none⟩) (acc.length + 1) cap7) (l.take (k + 1)).length (rowC (l.take (k + 1)))) := by
        rw [HSK.out, List.length_append, List.length_singleton, rowC_snoc]; exact hown7
      have B7 := Lib.hid (BD.out.trans hb7)
      clear hown7 hb7
      go_wp2_with fail
      go_roundw
      case rel => exact ⟨k + 1, by omega, by go_num, Q7, B7⟩
      case measure => simp [intOf]; omega
    · obtain rfl : k = l.length := by omega
      rw [List.take_length] at hQ
      go_wp2_with fail
      all_goals (try (exfalso; omega))
      go_ret
      exact ⟨⟨_, rfl, hQ.out⟩, hB.out⟩
theorem toList_iff (x y : List UInt8) : ((bs x).toList = (bs y).toList) = (x = y) := by
  have h := str_eq (bs x) (bs y)
  rw [L_bs, L_bs] at h
  by_cases e : x = y
  · rw [e]; simp
  · rw [decide_eq_false e, beq_eq_false_iff_ne] at h
    simp [e, h]
set_option maxRecDepth 100000 in
theorem same_law (w : World) (p q : Option Addr) (cap dap : Nat) (l m : List Ck) (hC : Cks w p l) (hD : Cks w q m) (hl : l.length ≤ 1073741825) (_ : m.length ≤ 1073741825) :
    Calls Tryz.prog 15 #[.slice p l.length cap, .slice q m.length dap] w fun e w' => e = .returned (.bool (decide (l = m))) ∧ Below w.heap.size w w' := by
  have PL := Lib.hid (plain_law w p cap l hC hl)
  have HD := Lib.hid hD
  obtain ⟨R, hR⟩ := name_it (decide (l = m))
  rw [hR.out]
  clear hC hD
  by_cases hlm : l.length = m.length
  · rw [← hlm]
    have HLM := Lib.hid hlm
    clear hlm
    go_enter Tryz.func15, Tryz.ntmps15
    go_wp2_with fail
    all_goals (try (exfalso; omega))
    refine PL.out.mono ?_; rintro e w1 ⟨⟨v, rfl, hrow⟩, hb1⟩
    have hrow : w1.ownsRow w.heap.size tRk 2 v l.length (rowC l) := hrow
    obtain ⟨so, co, hout⟩ := row_slice hrow
    subst hout
    have C1 := Lib.hid (row_cks hrow)
    have D1 := Lib.hid (HD.out.next hb1)
    have B1 := Lib.hid hb1
    clear PL HD hrow hb1
    go_wp2_with fail
    go_loopw [5, 6, 15] (fun _ _ i wr => ∃ k : Nat, k ≤ l.length ∧ i = .int .i64 k ∧ Hid (l.take k = m.take k) ∧ Hid (Below w1.heap.size w1 wr)) (fun _ _ i _ => l.length - (intOf i).toNat)
    case atStart => exact ⟨0, Nat.zero_le _, rfl, rfl, Below.refl _ _⟩
    case round =>
      obtain ⟨k, hk, rfl, hE, hB⟩ := hrel
      obtain ⟨wq, hwq⟩ : ∃ wq, wq = wr := ⟨wr, rfl⟩
      subst hwq
      by_cases hlt : k < l.length
      · obtain ⟨g, og, rfl, hg, c0, c1⟩ := (C1.out.next hB.out).get k hlt
        obtain ⟨f, og2, rfl, hf, d0, d1⟩ := (D1.out.next hB.out).get k (by rw [← HLM.out]; exact hlt)
        have HL : Hid (l.take (k + 1) = l.take k ++ [l[k]]) := List.take_succ_eq_append_getElem hlt
        have HM : Hid (m.take (k + 1) = m.take k ++ [m[k]'(by rw [← HLM.out]; exact hlt)]) := List.take_succ_eq_append_getElem (by rw [← HLM.out]; exact hlt)
        have NE : Hid (l[k] ≠ m[k]'(by rw [← HLM.out]; exact hlt) → R = false) := by
          intro hne
          rw [← hR.out]
          exact decide_eq_false (fun e => hne (by subst e; rfl))
        obtain ⟨c, hc⟩ := name_it l[k]
        obtain ⟨d, hd⟩ := name_it (m[k]'(by rw [← HLM.out]; exact hlt))
        rw [hc.out] at c0 c1 HL NE
        rw [hd.out] at d0 d1 HM NE
        have KC := Lib.hid (CellsAt.first wq [.string (bs c.1), .string (bs c.2)] tRk)
        have B2 := (Below.refl wq.heap.size wq).alloc (Nat.le_refl _) (.cells #[.string (bs c.1), .string (bs c.2)] tRk)
        have BD := Lib.hid (hB.out.trans (B2.mono hB.out.size))
        have y0 := (B2.cell (p := ⟨f, og2 + k * 2, none⟩) hf).trans d0
        have y1 := (B2.cell (p := ⟨f, og2 + k * 2 + 1, none⟩) hf).trans d1
        have z0 := KC.out.at 0 _ rfl
        have z1 := KC.out.at 1 _ rfl
        have e0 := str_eq (bs c.1) (bs d.1)
        have e1 := str_eq (bs c.2) (bs d.2)
        clear hc hd B2 d0 d1
        go_upto_region 6 with fail
        all_goals (try (exfalso; omega))
        clear c0 c1
        generalize wq.alloc _ = w5 at *
        have NQ : ∀ wx : World, (binOp BinOp.neq tRk (.agg #[.string (bs c.1), .string (bs c.2)]) (.agg #[.string (bs d.1), .string (bs d.2)])).run Tryz.prog wx = .ok (.bool (!decide (c = d))) wx := by
          intro wx
          simp [go_sem]
          simp only [toList_iff]
          obtain ⟨c1, c2⟩ := c
          obtain ⟨d1, d2⟩ := d
          by_cases h1 : c1 = d1 <;> by_cases h2 : c2 = d2 <;> simp [h1, h2]
        go_region
        have Bd := (Below.refl w5.heap.size w5).drew
        have B6 := Lib.hid (BD.out.trans (Bd.mono BD.out.size))
        clear NQ BD Bd e0 e1 y0 y1 z0 z1
        generalize w5.drew = w6 at *
        by_cases hcd : c = d
        · have HT : Hid (l.take (k + 1) = m.take (k + 1)) := by unfold Hid; rw [HL.out, HM.out, hE.out, hcd]
          rw [decide_eq_true hcd]
          clear hcd
          go_wp2_with fail
          go_roundw
          case rel => exact ⟨k + 1, by omega, by go_num, HT, B6⟩
          case measure => simp [intOf]; omega
        · have HF : Hid (R = false) := NE.out hcd
          rw [decide_eq_false hcd]
          clear hcd NE
          go_wp2_with fail
          go_ret
          exact ⟨ret_bool HF.out.symm, B1.out.trans (B6.out.mono B1.out.size)⟩
      · obtain rfl : k = l.length := by omega
        have HF : Hid (R = true) := by
          rw [← hR.out]
          have := hE.out
          rw [List.take_length, HLM.out, List.take_length] at this
          exact decide_eq_true this
        go_wp2_with fail
        all_goals (try (exfalso; omega))
        go_ret
        exact ⟨ret_bool HF.out.symm, B1.out.trans (hB.out.mono B1.out.size)⟩
  · have HF : Hid (R = false) := by
      rw [← hR.out]
      exact decide_eq_false (fun e => hlm (by rw [e]))
    have hlm2 : ¬ (l.length : Int) = m.length := by omega
    go_enter Tryz.func15, Tryz.ntmps15
    go_wp2_with fail
    all_goals (try (exfalso; omega))
    go_ret
    exact ⟨ret_bool HF.out.symm, Below.refl _ _⟩
theorem same_self (w : World) (p q : Option Addr) (cap dap : Nat) (l : List Ck) (hC : Cks w p l) (hD : Cks w q l) (hl : l.length ≤ 1073741825) :
    Calls Tryz.prog 15 #[.slice p l.length cap, .slice q l.length dap] w fun e w' => e = .returned (.bool true) ∧ Below w.heap.size w w' := by
  refine (same_law w p q cap dap l l hC hD hl hl).mono ?_
  rintro e w' ⟨rfl, h⟩
  exact ⟨ret_bool (decide_eq_true rfl), h⟩
end Go.Proofs.YtkenianfpfamcaaGreatDoor
