/- Rows of structs, of a size that a function says: where they lie, how they are stored, copied. The document's jar: what is over, what is kept; the law's sameSets. The document's jar without those that are over; New. Rows and blocks: cells of a row, fifteen stores, blocks made in a row. -/
import Derived.Test.YtkenianfpfamcaaGreatDoorMn
import Derived.Test.YtkenianfpfamcaaGreatDoorDb
import Derived.Deep.RegionHeld3
import Derived.Deep.DeepCutAuto
namespace Go.Proofs.YtkenianfpfamcaaGreatDoor
open Go Go.RowKit

/-- the cells of all -/
def flat {α : Type} (f : α → List Value) (l : List α) : List Value := l.flatMap f
theorem flat_snoc {α : Type} (f : α → List Value) (l : List α) (x : α) : flat f (l ++ [x]) = flat f l ++ f x := by unfold flat; simp
theorem flat_length {α : Type} {f : α → List Value} {n : Nat} (hn : ∀ x, (f x).length = n) : ∀ l : List α, (flat f l).length = n * l.length
  | [] => by simp [flat]
  | x :: l => by
    have ih := flat_length hn l
    unfold flat at ih ⊢
    rw [List.flatMap_cons, List.length_append, hn, ih, List.length_cons, Nat.mul_succ]; omega
theorem flat_get {α : Type} {f : α → List Value} {n : Nat} (hn : ∀ x, (f x).length = n) : ∀ (l : List α) (k : Nat) (hk : k < l.length) (j : Nat), j < n → (flat f l)[k * n + j]? = (f l[k])[j]?
  | x :: l, 0, _, j, hj => by
    unfold flat
    rw [List.flatMap_cons, Nat.zero_mul, Nat.zero_add, List.getElem?_append_left (by rw [hn]; exact hj)]; rfl
  | x :: l, k + 1, hk, j, hj => by
    have ih := flat_get hn l k (by simpa using hk) j hj
    unfold flat at ih ⊢
    rw [List.flatMap_cons, List.getElem?_append_right (by rw [hn, Nat.succ_mul]; omega), hn, show (k + 1) * n + j - n = k * n + j by rw [Nat.succ_mul]; omega, ih]
    rfl
/-- structs that a slice holds, whoever made it -/
structure Lies {α : Type} (f : α → List Value) (n : Nat) (w : World) (p : Option Addr) (l : List α) : Prop where
  mem : l = [] ∨ ∃ g off, p = some ⟨g, off, none⟩ ∧ g < w.heap.size ∧ ∀ k (hk : k < l.length) j, j < n → w.cell? ⟨g, off + k * n + j, none⟩ = (f l[k])[j]?
theorem Lies.next {α : Type} {f : α → List Value} {n : Nat} {w w' : World} {p : Option Addr} {l : List α} (h : Lies f n w p l) (hb : Below w.heap.size w w') : Lies f n w' p l := by
  constructor
  rcases h.mem with h | ⟨g, off, h1, h2, h3⟩
  · exact Or.inl h
  · exact Or.inr ⟨g, off, h1, Nat.lt_of_lt_of_le h2 hb.size, fun k hk j hj => by rw [hb.cell (p := ⟨g, off + k * n + j, none⟩) h2]; exact h3 k hk j hj⟩
theorem Lies.get {α : Type} {f : α → List Value} {n : Nat} {w : World} {p : Option Addr} {l : List α} (h : Lies f n w p l) (k : Nat) (hk : k < l.length) :
    ∃ g off, p = some ⟨g, off, none⟩ ∧ g < w.heap.size ∧ ∀ j v, j < n → (f l[k])[j]? = some v → w.cell? ⟨g, off + k * n + j, none⟩ = some v := by
  rcases h.mem with h | ⟨g, off, h1, h2, h3⟩
  · rw [h] at hk; cases hk
  · exact ⟨g, off, h1, h2, fun j v hj hv => by rw [h3 k hk j hj, hv]⟩
theorem row_lies {α : Type} {f : α → List Value} {n : Nat} (hn : ∀ x, (f x).length = n) {w : World} {base cap : Nat} {T : TypeId} {p : Option Addr} {l : List α}
    (h : w.ownsRow base T n (.slice p l.length cap) l.length (flat f l)) : Lies f n w p l := by
  constructor
  rcases h.2 with ⟨_, h0⟩ | ⟨g, cap', cur, hv, hrest⟩
  · exact Or.inl (List.eq_nil_of_length_eq_zero h0)
  · injection hv with hv h1 h2
    subst hv
    have hlt := World.ownsRow.lt h g rfl
    refine Or.inr ⟨g, 0, rfl, hlt.2, fun k hk j hj => ?_⟩
    have hb : k * n + n ≤ l.length * n := by rw [← Nat.succ_mul]; exact Nat.mul_le_mul_right _ hk
    rw [Nat.zero_add, h.cellAt (k * n + j) (by omega), flat_get hn l k hk j hj]
theorem Lies.drop {α : Type} {f : α → List Value} {n : Nat} {w : World} {g off k : Nat} {l : List α} (h : Lies f n w (some ⟨g, off, none⟩) l) : Lies f n w (some ⟨g, off + k * n, none⟩) (l.drop k) := by
  constructor
  rcases h.mem with h | ⟨g', off', h1, h2, h3⟩
  · exact Or.inl (by rw [h]; simp)
  · injection h1 with h1; injection h1 with h1 h1'; subst h1; subst h1'
    refine Or.inr ⟨_, _, rfl, h2, fun i hi j hj => ?_⟩
    have hi2 : k + i < l.length := by rw [List.length_drop] at hi; omega
    have := h3 (k + i) hi2 j hj
    rw [Nat.add_mul] at this
    rw [Nat.add_assoc off, this]
    congr 2
    simp
theorem row_cap {w : World} {base cap n m : Nat} {T : TypeId} {p : Option Addr} {xs : List Value} (h : w.ownsRow base T n (.slice p m cap) m xs) : m ≤ cap := by
  rcases h.2 with ⟨h1, h0⟩ | ⟨g, c, cur, hv, _, _, hc, _⟩
  · omega
  · injection hv with _ _ hv3; subst hv3; exact hc
theorem row_zero {w : World} {base cap n m : Nat} {T : TypeId} {p : Option Addr} {xs : List Value} (h : w.ownsRow base T n (.slice p m cap) m xs) (hm : 0 < m) : ∃ g, p = some ⟨g, 0, none⟩ ∧ base ≤ g := by
  rcases h.2 with ⟨h1, h0⟩ | ⟨g, c, cur, hv, hb, _⟩
  · omega
  · injection hv with hv _ _; exact ⟨g, hv, hb⟩
/-- one struct after another stored into a row of a call's own -/
def setAll (xs : List Value) : Nat → List Value → List Value
  | _, [] => xs
  | k, v :: vs => setAll (xs.set k v) (k + 1) vs
theorem setAll_get : ∀ (vs : List Value) (k : Nat) (xs : List Value) (j : Nat), k + vs.length ≤ xs.length → (setAll xs k vs)[j]? = if k ≤ j ∧ j < k + vs.length then vs[j - k]? else xs[j]?
  | [], k, xs, j, _ => by
    rw [setAll, if_neg (by rw [List.length_nil]; omega)]
  | v :: vs, k, xs, j, h => by
    rw [List.length_cons] at h
    rw [setAll, setAll_get vs (k + 1) _ j (by rw [List.length_set]; omega), List.length_cons]
    by_cases h1 : k + 1 ≤ j ∧ j < k + 1 + vs.length
    · rw [if_pos h1, if_pos (by omega), show j - k = (j - (k + 1)) + 1 by omega]; rfl
    · rw [if_neg h1]
      by_cases h2 : k = j
      · subst h2
        rw [if_pos (by omega), Nat.sub_self, List.getElem?_set_self (by omega)]; rfl
      · rw [if_neg (by omega), List.getElem?_set_ne h2]
theorem setAll_flat {α : Type} {f : α → List Value} {n : Nat} (hn : ∀ x, (f x).length = n) (l : List α) (k : Nat) (hk : k < l.length) (x : α) : setAll (flat f l) (k * n) (f x) = flat f (l.set k x) := by
  have hkn : k * n + n ≤ l.length * n := by rw [← Nat.succ_mul]; exact Nat.mul_le_mul_right _ hk
  apply List.ext_getElem?
  intro j
  rw [setAll_get _ _ _ _ (by rw [hn, flat_length hn, Nat.mul_comm n]; exact hkn), hn]
  rcases Nat.lt_or_ge j (l.length * n) with hj | hj
  · have hn0 : 0 < n := by
      rcases Nat.eq_zero_or_pos n with h | h
      · subst h; rw [Nat.mul_zero] at hj; cases hj
      · exact h
    have hq : j / n < l.length := Nat.div_lt_of_lt_mul (by rw [Nat.mul_comm]; exact hj)
    have hr := Nat.mod_lt j hn0
    have hd : j = j / n * n + j % n := by rw [Nat.mul_comm]; exact (Nat.div_add_mod j n).symm
    have e2 := flat_get hn (l.set k x) (j / n) (by rw [List.length_set]; exact hq) (j % n) hr
    have e1 := flat_get hn l (j / n) hq (j % n) hr
    rw [← hd] at e1 e2
    rw [e1, e2]
    by_cases hqk : j / n = k
    · subst hqk
      rw [if_pos (by omega), List.getElem_set_self, show j - j / n * n = j % n by omega]
    · rw [if_neg (fun h => hqk ?_), List.getElem_set_ne (fun e => hqk e.symm)]
      rcases Nat.lt_or_ge (j / n) k with h3 | h3
      · have := Nat.mul_le_mul_right n (show j / n + 1 ≤ k from h3)
        rw [Nat.succ_mul] at this; omega
      · rcases Nat.lt_or_ge k (j / n) with h4 | h4
        · have := Nat.mul_le_mul_right n (show k + 1 ≤ j / n from h4)
          rw [Nat.succ_mul] at this; omega
        · omega
  · rw [if_neg (by omega), List.getElem?_eq_none (by rw [flat_length hn, Nat.mul_comm]; exact hj), List.getElem?_eq_none (by rw [flat_length hn, List.length_set, Nat.mul_comm]; exact hj)]
theorem stored_all {base g n cap size : Nat} {e : TypeId} : ∀ (vs : List Value) (k : Nat) (xs : List Value) (w : World), w.ownsRow base e size (.slice (some ⟨g, 0, none⟩) n cap) n xs →
    (putAll w g k vs).ownsRow base e size (.slice (some ⟨g, 0, none⟩) n cap) n (setAll xs k vs)
  | [], _, _, _, h => h
  | v :: vs, k, _, _, h => stored_all vs (k + 1) _ _ (h.stored k v).1
/-- 'append([]T{}, l...)' -/
theorem append_lies {α : Type} {f : α → List Value} {n bytes : Nat} (hn : ∀ x, (f x).length = n) (h1c : ∀ x, ∀ u ∈ f x, u.oneCell' = true) (hn0 : 0 < n) {w : World} {ops : Array Oper} {rest : List Oper} {o : Oper} {a : Act} {Q : Exit → Act → World → Prop} (hgd : o.guard = none) (s x : Operand) (t : TypeId)
    (ho : o.op = .call { callee := .builtin .append, args := #[s, x], argTypes := #[t, t] }) (e : TypeId) (i : TypeInfo) (z : Value)
    (ht : Tryz.prog.underlying t = some (.slice e)) (hi : Tryz.prog.info? e = some i) (hz : i.zero = some z) (hsize : i.size = n) (hby : i.bytes = bytes) (hzs : z.cells.size = n) (hbt : bytes ≤ 1024)
    {base : Nat} {p : Option Addr} {c : Nat} (hs : a.eval s = .slice p 0 c) (hown : w.ownsRow base e n (.slice p 0 c) 0 [])
    {q : Option Addr} {cap : Nat} {l : List α} (hv : Lies f n w q l) (hx : a.eval x = .slice q l.length cap) (hl : l.length ≤ 1048576) (hbase : base ≤ w.heap.size)
    (h : ∀ v' w', w'.ownsRow base e n v' l.length (flat f l) → Below base w w' → wpList Tryz.prog ops Q rest (a.put o.dst v') w') : wpList Tryz.prog ops Q (o :: rest) a w := by
  cases q with
  | none =>
    have hl0 : l = [] := by
      rcases hv.mem with h | ⟨_, _, h, _⟩
      · exact h
      · cases h
    subst hl0
    exact wpList_append_nil hgd s x _ ho e i ht hi (Nat.zero_le _) hs hx (h _ _ hown (Below.refl _ _))
  | some ad =>
    have hmul : l.length * bytes ≤ 1048576 * 1024 := Nat.mul_le_mul hl hbt
    refine wpList_append_own_at (w := w) hgd s x _ ho base e i _ n bytes ht hi hz hsize hby hzs hn0 _ 0 [] hs hown ad l.length cap (flat f l) hx (by rw [flat_length hn, Nat.mul_comm]) ?_ ?_ (by unfold maxLen; omega) (by rw [Nat.zero_add]; omega) hbase ?_
    · intro j u hu
      have hj : j < l.length * n := by
        have := (List.getElem?_eq_some_iff.1 hu).1; rw [flat_length hn, Nat.mul_comm] at this; exact this
      have hq : j / n < l.length := Nat.div_lt_of_lt_mul (by rw [Nat.mul_comm]; exact hj)
      have hr := Nat.mod_lt j hn0
      have hd : j = j / n * n + j % n := by rw [Nat.mul_comm]; exact (Nat.div_add_mod j n).symm
      obtain ⟨b, off, hp, hlt, h1⟩ := hv.get (j / n) hq
      obtain rfl : ad = ⟨b, off, none⟩ := by injection hp
      have e1 := flat_get hn l (j / n) hq (j % n) hr
      rw [← hd] at e1
      rw [e1] at hu
      have := h1 (j % n) u hr hu
      rw [Nat.add_assoc, ← hd] at this
      rw [Addr.add_lit]
      exact this
    · intro u hu
      unfold flat at hu
      obtain ⟨y, _, hy⟩ := List.mem_flatMap.1 hu
      exact h1c y u hy
    · intro v' w' h2 h3 _ _
      rw [Nat.zero_add, List.nil_append] at h2
      exact h v' w' h2 (own_below hown h3 hbase)
end Go.Proofs.YtkenianfpfamcaaGreatDoor
namespace Go.Proofs.YtkenianfpfamcaaGreatDoor
open Go Go.RowKit
set_option maxHeartbeats 4000000

abbrev tKp : TypeId := 111
abbrev tRJ : TypeId := 57
abbrev tLn : TypeId := 65
def cellsP (k : Kp) : List Value := cellsS k.c ++ [.string (bs k.dom), .string (bs k.path), .int .i64 k.till, .bool k.ends]
theorem cellsP_len (k : Kp) : (cellsP k).length = 15 := rfl
theorem cellsS_len (c : SetC) : (cellsS c).length = 11 := rfl
theorem cellsP_one (k : Kp) : ∀ u ∈ cellsP k, u.oneCell' = true := by
  intro u hu
  unfold cellsP at hu
  rcases List.mem_append.1 hu with h | h
  · exact cellsS_one _ u h
  · simp only [List.mem_cons, List.not_mem_nil, or_false] at h
    rcases h with rfl | rfl | rfl | rfl <;> rfl
theorem infoKp : (Tryz.prog.info? tKp).map (fun i => (i.zero, i.size, i.bytes)) = some (some (.agg #[.string ⟨#[]⟩, .string ⟨#[]⟩, .string ⟨#[]⟩, .string ⟨#[]⟩, .int .i64 0, .bool false, .int .i64 0, .bool false, .bool false, .bool false, .int .i64 0, .string ⟨#[]⟩, .string ⟨#[]⟩, .int .i64 0, .bool false]), 15, 152) := by kernel_rfl
theorem infoRS : (Tryz.prog.info? tRS).map (fun i => (i.zero, i.size, i.bytes)) = some (some (.agg #[.string ⟨#[]⟩, .string ⟨#[]⟩, .string ⟨#[]⟩, .string ⟨#[]⟩, .int .i64 0, .bool false, .int .i64 0, .bool false, .bool false, .bool false, .int .i64 0]), 11, 104) := by kernel_rfl
abbrev KpL (w : World) (p : Option Addr) (l : List Kp) : Prop := Lies cellsP 15 w p l
abbrev ScL (w : World) (p : Option Addr) (l : List SetC) : Prop := Lies cellsS 11 w p l
set_option maxRecDepth 100000 in
theorem rover_any (k : Kp) (now : Int) (w : World) : Calls Tryz.prog 65 #[.agg (cellsP k).toArray, .int .i64 now] w fun e w' => e = .returned (.bool (k.over now)) ∧ Below w.heap.size w w' := by
  have K1 := Lib.hid (CellsAt.first w (cellsP k) tKp)
  have B1 := Lib.hid (below_put2 (w := w) (cs := (cellsP k).toArray) (T := tKp))
  have HO : Hid (k.over now = (k.ends && decide (k.till ≤ now))) := rfl
  rw [HO.out]
  obtain ⟨⟨nm, v, p, d, ma, hm, ex, he, sc, ht, sm⟩, dom, path, till, ends⟩ := k
  unfold cellsP cellsS at K1 B1 ⊢
  simp only [List.cons_append, List.nil_append] at K1 B1 ⊢
  cases ends
  all_goals
    go_enter Tryz.func65, Tryz.ntmps65
    go_upto_region 1 with fail
    generalize w.alloc _ = w1 at K1 B1 ⊢
    have d13 : w1.cell? ⟨w.heap.size, 13, none⟩ = some (.int .i64 till) := K1.out.at 13 _ rfl
    have d14 := K1.out.at 14 _ rfl
    go_wp2_with fail
    go_ret
    exact ⟨ret_bool (by simp), B1.out⟩
set_option maxRecDepth 100000 in
theorem rall_any (most : Int) (p : Option Addr) (cap : Nat) (l : List Kp) (w : World) (hL : KpL w p l) (hl : l.length ≤ 1048576) :
    Calls Tryz.prog 31 #[.agg #[.int .i64 most, .slice p l.length cap]] w fun e w' => (∃ q cap', e = .returned (.slice q l.length cap') ∧ ScL w' q (allJ l)) ∧ Below w.heap.size w w' := by
  have K1 := Lib.hid (CellsAt.first w [.int .i64 most, .slice p l.length cap] tRJ)
  have B1 := Lib.hid (below_put2 (w := w) (cs := #[.int .i64 most, .slice p l.length cap]) (T := tRJ))
  have L1 := Lib.hid (hL.next B1.out)
  obtain ⟨i1, ci, cz0, cz1, cz2⟩ := info_parts infoRS
  clear hL
  go_enter Tryz.func31, Tryz.ntmps31
  go_upto_region 2 with fail
  generalize w.alloc _ = w1 at K1 B1 L1 ⊢
  have d1 := K1.out.at 1 _ rfl
  clear K1
  go_wp2_with fail
  have R0 : Hid (w1.ownsRow w1.heap.size tRS 11 (.slice none 0 0) (allJ (l.take 0)).length (flat cellsS (allJ (l.take 0)))) := World.ownsRow_nil ..
  go_loopw [3, 5, 6, 10] (fun out _ _ i wr => ∃ k : Nat, k ≤ l.length ∧ i = .int .i64 k ∧ Hid (wr.ownsRow w1.heap.size tRS 11 out (allJ (l.take k)).length (flat cellsS (allJ (l.take k)))) ∧ Hid (Below w1.heap.size w1 wr)) (fun _ _ _ i _ => l.length - (intOf i).toNat)
  case atStart => exact ⟨0, Nat.zero_le _, rfl, R0, Below.refl _ _⟩
  clear R0 d1
  case round =>
    obtain ⟨k, hk, rfl, hR, hB⟩ := hrel
    obtain ⟨wq, hwq⟩ : ∃ wq, wq = wr := ⟨wr, rfl⟩
    subst hwq
    by_cases hlt : k < l.length
    · obtain ⟨g, off, rfl, hg, hc⟩ := (L1.out.next hB.out).get k hlt
      have HSK : Hid (allJ (l.take (k + 1)) = allJ (l.take k) ++ [{ l[k].c with path := l[k].path }]) := by
        unfold Hid
        rw [List.take_succ_eq_append_getElem hlt]; unfold allJ; rw [List.map_append]; rfl
      have HLK : Hid ((allJ (l.take k)).length = k) := by unfold Hid allJ; rw [List.length_map, List.length_take]; omega
      obtain ⟨x, hx⟩ := name_it l[k]
      rw [hx.out] at hc HSK
      obtain ⟨acc, hacc⟩ := name_it (allJ (l.take k))
      rw [hacc.out] at hR HSK HLK
      obtain ⟨so2, co2, hout2⟩ := row_slice hR.out
      subst hout2
      clear hx hacc
      obtain ⟨⟨nm, v, p, d, ma, hm, ex, he, sc, ht, sm⟩, dom, path, till, ends⟩ := x
      have z0 : wq.cell? ⟨g, off + k * 15, none⟩ = some (.string (bs nm)) := hc 0 _ (by decide) rfl
      have z1 : wq.cell? ⟨g, off + k * 15 + 1, none⟩ = some (.string (bs v)) := hc 1 _ (by decide) rfl
      have z2 : wq.cell? ⟨g, off + k * 15 + 2, none⟩ = some (.string (bs p)) := hc 2 _ (by decide) rfl
      have z3 : wq.cell? ⟨g, off + k * 15 + 3, none⟩ = some (.string (bs d)) := hc 3 _ (by decide) rfl
      have z4 : wq.cell? ⟨g, off + k * 15 + 4, none⟩ = some (.int .i64 ma) := hc 4 _ (by decide) rfl
      have z5 : wq.cell? ⟨g, off + k * 15 + 5, none⟩ = some (.bool hm) := hc 5 _ (by decide) rfl
      have z6 : wq.cell? ⟨g, off + k * 15 + 6, none⟩ = some (.int .i64 ex) := hc 6 _ (by decide) rfl
      have z7 : wq.cell? ⟨g, off + k * 15 + 7, none⟩ = some (.bool he) := hc 7 _ (by decide) rfl
      have z8 : wq.cell? ⟨g, off + k * 15 + 8, none⟩ = some (.bool sc) := hc 8 _ (by decide) rfl
      have z9 : wq.cell? ⟨g, off + k * 15 + 9, none⟩ = some (.bool ht) := hc 9 _ (by decide) rfl
      have z10 : wq.cell? ⟨g, off + k * 15 + 10, none⟩ = some (.int .i64 sm) := hc 10 _ (by decide) rfl
      have z11 : wq.cell? ⟨g, off + k * 15 + 11, none⟩ = some (.string (bs dom)) := hc 11 _ (by decide) rfl
      have z12 : wq.cell? ⟨g, off + k * 15 + 12, none⟩ = some (.string (bs path)) := hc 12 _ (by decide) rfl
      have z13 : wq.cell? ⟨g, off + k * 15 + 13, none⟩ = some (.int .i64 till) := hc 13 _ (by decide) rfl
      have z14 : wq.cell? ⟨g, off + k * 15 + 14, none⟩ = some (.bool ends) := hc 14 _ (by decide) rfl
      clear hc
      go_upto_region 5 with fail
      all_goals (try (exfalso; omega))
      have KC := Lib.hid (CellsAt.first wq [.string (bs nm), .string (bs v), .string (bs p), .string (bs d), .int .i64 ma, .bool hm, .int .i64 ex, .bool he, .bool sc, .bool ht, .int .i64 sm, .string (bs dom), .string (bs path), .int .i64 till, .bool ends] tKp)
      have BA := Lib.hid (hB.out.alloc hB.out.size (.cells #[.string (bs nm), .string (bs v), .string (bs p), .string (bs d), .int .i64 ma, .bool hm, .int .i64 ex, .bool he, .bool sc, .bool ht, .int .i64 sm, .string (bs dom), .string (bs path), .int .i64 till, .bool ends] tKp))
      have RA := Lib.hid (hR.out.alloc (.cells #[.string (bs nm), .string (bs v), .string (bs p), .string (bs d), .int .i64 ma, .bool hm, .int .i64 ex, .bool he, .bool sc, .bool ht, .int .i64 sm, .string (bs dom), .string (bs path), .int .i64 till, .bool ends] tKp))
      clear z0 z1 z2 z3 z4 z5 z6 z7 z8 z9 z10 z11 z12 z13 z14 hB hR
      generalize wq.alloc _ = w5 at KC BA RA ⊢
      have z0 : w5.cell? ⟨wq.heap.size, 0, none⟩ = some (.string (bs nm)) := KC.out.at 0 _ rfl
      have z1 : w5.cell? ⟨wq.heap.size, 1, none⟩ = some (.string (bs v)) := KC.out.at 1 _ rfl
      have z2 : w5.cell? ⟨wq.heap.size, 2, none⟩ = some (.string (bs p)) := KC.out.at 2 _ rfl
      have z3 : w5.cell? ⟨wq.heap.size, 3, none⟩ = some (.string (bs d)) := KC.out.at 3 _ rfl
      have z4 : w5.cell? ⟨wq.heap.size, 4, none⟩ = some (.int .i64 ma) := KC.out.at 4 _ rfl
      have z5 : w5.cell? ⟨wq.heap.size, 5, none⟩ = some (.bool hm) := KC.out.at 5 _ rfl
      have z6 : w5.cell? ⟨wq.heap.size, 6, none⟩ = some (.int .i64 ex) := KC.out.at 6 _ rfl
      have z7 : w5.cell? ⟨wq.heap.size, 7, none⟩ = some (.bool he) := KC.out.at 7 _ rfl
      have z8 : w5.cell? ⟨wq.heap.size, 8, none⟩ = some (.bool sc) := KC.out.at 8 _ rfl
      have z9 : w5.cell? ⟨wq.heap.size, 9, none⟩ = some (.bool ht) := KC.out.at 9 _ rfl
      have z10 : w5.cell? ⟨wq.heap.size, 10, none⟩ = some (.int .i64 sm) := KC.out.at 10 _ rfl
      go_upto_region 6 with fail
      have KD := Lib.hid (CellsAt.first w5 [.string (bs nm), .string (bs v), .string (bs p), .string (bs d), .int .i64 ma, .bool hm, .int .i64 ex, .bool he, .bool sc, .bool ht, .int .i64 sm] tRS)
      have BB := Lib.hid (BA.out.alloc BA.out.size (.cells #[.string (bs nm), .string (bs v), .string (bs p), .string (bs d), .int .i64 ma, .bool hm, .int .i64 ex, .bool he, .bool sc, .bool ht, .int .i64 sm] tRS))
      have RB := Lib.hid (RA.out.alloc (.cells #[.string (bs nm), .string (bs v), .string (bs p), .string (bs d), .int .i64 ma, .bool hm, .int .i64 ex, .bool he, .bool sc, .bool ht, .int .i64 sm] tRS))
      have bb := Lib.hid (below_put2 (w := w5) (cs := #[.string (bs nm), .string (bs v), .string (bs p), .string (bs d), .int .i64 ma, .bool hm, .int .i64 ex, .bool he, .bool sc, .bool ht, .int .i64 sm]) (T := tRS))
      have KC2 := Lib.hid (KC.out.next bb.out)
      have GT : Hid (w1.heap.size ≤ w5.heap.size) := BA.out.size
      have GL : Hid (∀ g, (Value.slice so2 acc.length co2).ownBlock = some g → g < w5.heap.size) := fun g hg => (World.ownsRow.lt RA.out g hg).2
      clear z0 z1 z2 z3 z4 z5 z6 z7 z8 z9 z10 BA RA KC bb
      obtain ⟨m, hm'⟩ := name_it w5.heap.size
      rw [hm'.out] at KD ⊢
      generalize w5.alloc _ = w6 at KD BB RB KC2 ⊢
      have z12 : w6.cell? ⟨wq.heap.size, 12, none⟩ = some (.string (bs path)) := KC2.out.at 12 _ rfl
      have x2 : w6.cell? ⟨m, 2, none⟩ = some (.string (bs p)) := KD.out.at 2 _ rfl
      have y2 := KD.out.free 2
      go_upto_region 7 with fail
      have KE : Hid (CellsAt (w6.setCell ⟨m, 2, none⟩ (.string (bs path))) m (cellsS ⟨nm, v, path, d, ma, hm, ex, he, sc, ht, sm⟩)) := KD.out.set 2 (by show 2 < 11; decide) (.string (bs path))
      have BE : Hid (Below w1.heap.size w1 (w6.setCell ⟨m, 2, none⟩ (.string (bs path)))) := below_set BB.out (by have := GT.out; rw [← hm'.out]; exact this)
      have RE := Lib.hid (row_kept RB.out (w' := w6.setCell ⟨m, 2, none⟩ (.string (bs path))) (fun g hg => Below.heap_setCell w6 ⟨m, 2, none⟩ _ g (fun e => by
        have h1 := GL.out g hg
        have h2 := hm'.out
        have h3 : g = m := e
        omega)))
      clear KD RB BB KC2 z12 x2 y2 GT GL
      generalize w6.setCell ⟨m, 2, none⟩ _ = w7 at KE BE RE ⊢
      have z0 : w7.cell? ⟨m, 0, none⟩ = some (.string (bs nm)) := KE.out.at 0 _ rfl
      have z1 : w7.cell? ⟨m, 1, none⟩ = some (.string (bs v)) := KE.out.at 1 _ rfl
      have z2 : w7.cell? ⟨m, 2, none⟩ = some (.string (bs path)) := KE.out.at 2 _ rfl
      have z3 : w7.cell? ⟨m, 3, none⟩ = some (.string (bs d)) := KE.out.at 3 _ rfl
      have z4 : w7.cell? ⟨m, 4, none⟩ = some (.int .i64 ma) := KE.out.at 4 _ rfl
      have z5 : w7.cell? ⟨m, 5, none⟩ = some (.bool hm) := KE.out.at 5 _ rfl
      have z6 : w7.cell? ⟨m, 6, none⟩ = some (.int .i64 ex) := KE.out.at 6 _ rfl
      have z7 : w7.cell? ⟨m, 7, none⟩ = some (.bool he) := KE.out.at 7 _ rfl
      have z8 : w7.cell? ⟨m, 8, none⟩ = some (.bool sc) := KE.out.at 8 _ rfl
      have z9 : w7.cell? ⟨m, 9, none⟩ = some (.bool ht) := KE.out.at 9 _ rfl
      have z10 : w7.cell? ⟨m, 10, none⟩ = some (.int .i64 sm) := KE.out.at 10 _ rfl
      have hBd : w1.heap.size ≤ w7.heap.size := BE.out.size
      go_wp2_with (at_builtin; refine appendS (by rfl) _ _ 72 (by rfl) w1.heap.size tRS i1 (.agg #[.string ⟨#[]⟩, .string ⟨#[]⟩, .string ⟨#[]⟩, .string ⟨#[]⟩, .int .i64 0, .bool false, .int .i64 0, .bool false, .bool false, .bool false, .int .i64 0]) 11 104 Tryz.underlying72 ci cz0 cz1 cz2 rfl (by decide) RE.out (by rfl) (cellsS ⟨nm, v, path, d, ma, hm, ex, he, sc, ht, sm⟩) rfl (cellsS_one _) (by rfl) (by have := HLK.out; unfold maxLen; omega) (by have := HLK.out; omega) hBd ?_)
      all_goals (try (exfalso; omega))
      intro g8 cap8 w8 hg8 hown8 hb8
      have Q8 : Hid (w8.ownsRow w1.heap.size tRS 11 (.slice (some ⟨g8, 0, none⟩) (acc.length + 1) cap8) (allJ (l.take (k + 1))).length (flat cellsS (allJ (l.take (k + 1))))) := by
        rw [HSK.out, List.length_append, List.length_singleton, flat_snoc]; exact hown8
      have B8 := Lib.hid (BE.out.trans hb8)
      clear hown8 hb8
      go_wp2_with fail
      go_roundw
      case rel => exact ⟨k + 1, by omega, by go_num, Q8, B8⟩
      case measure => simp [intOf]; omega
    · obtain rfl : k = l.length := by omega
      rw [List.take_length] at hR
      have hal : (allJ l).length = l.length := by unfold allJ; rw [List.length_map]
      obtain ⟨so, co, hout⟩ := row_slice hR.out
      subst hout
      have LL := Lib.hid (row_lies cellsS_len hR.out)
      have BB := Lib.hid (B1.out.trans (hB.out.mono B1.out.size))
      have HAL := Lib.hid hal
      clear hR hB hal
      go_wp2_with fail
      all_goals (try (exfalso; omega))
      go_ret
      exact ⟨⟨so, co, by first | rfl | (rw [HAL.out]; rfl), LL.out⟩, BB.out⟩
end Go.Proofs.YtkenianfpfamcaaGreatDoor
namespace Go.Proofs.YtkenianfpfamcaaGreatDoor
open Go Go.RowKit
set_option maxHeartbeats 4000000

theorem sweep_snoc (l : List Kp) (k : Nat) (h : k < l.length) (now : Int) : sweepC (l.take (k + 1)) now = sweepC (l.take k) now ++ (if l[k].over now = true then [] else [l[k]]) := by
  rw [List.take_succ_eq_append_getElem h]
  unfold sweepC
  rw [List.filter_append, List.filter_cons, List.filter_nil]
  cases l[k].over now <;> rfl
set_option maxRecDepth 100000 in
theorem rwithout_any (most : Int) (p : Option Addr) (cap : Nat) (l : List Kp) (now : Int) (w : World) (hL : KpL w p l) (hl : l.length ≤ 1048576) :
    Calls Tryz.prog 66 #[.agg #[.int .i64 most, .slice p l.length cap], .int .i64 now] w fun e w' => (∃ q cap', e = .returned (.agg #[.int .i64 most, .slice q (sweepC l now).length cap']) ∧ (sweepC l now).length ≤ cap' ∧ KpL w' q (sweepC l now) ∧ (∀ g off, q = some ⟨g, off, none⟩ → w.heap.size ≤ g)) ∧ Below w.heap.size w w' := by
  have K1 := Lib.hid (CellsAt.first w [.int .i64 most, .slice p l.length cap] tRJ)
  have B1 := Lib.hid (below_put2 (w := w) (cs := #[.int .i64 most, .slice p l.length cap]) (T := tRJ))
  have B2 := Lib.hid (B1.out.alloc B1.out.size (.cells #[.int .i64 0, .slice none 0 0] tRJ))
  have K2 := Lib.hid (CellsAt.first (w.alloc (.cells #[.int .i64 most, .slice p l.length cap] tRJ)) [.int .i64 0, .slice none 0 0] tRJ)
  have L2 := Lib.hid (hL.next B2.out)
  have K1b := Lib.hid (K1.out.next (below_put2 (w := w.alloc (.cells #[.int .i64 most, .slice p l.length cap] tRJ)) (cs := #[.int .i64 0, .slice none 0 0]) (T := tRJ)))
  have hsz : (w.alloc (.cells #[.int .i64 most, .slice p l.length cap] tRJ)).heap.size = w.heap.size + 1 := by
    show (w.heap.push _).size = _
    rw [Array.size_push]
  rw [hsz] at K2
  obtain ⟨i1, ci, cz0, cz1, cz2⟩ := info_parts infoKp
  clear hL K1 B1 hsz
  go_enter Tryz.func66, Tryz.ntmps66
  go_upto_region 2 with fail
  obtain ⟨b, hb⟩ := name_it w.heap.size
  obtain ⟨r, hr⟩ := name_it (b + 1)
  have HB : Hid (w.heap.size = b ∧ b + 1 = r) := ⟨hb.out, hr.out⟩
  rw [hb.out] at K1b K2 ⊢
  rw [hr.out] at K2 ⊢
  clear hb hr
  generalize World.alloc _ _ = w1 at K2 K1b B2 L2 ⊢
  have HW1 : Hid (b < w1.heap.size ∧ r < w1.heap.size) := ⟨K1b.out.lt, K2.out.lt⟩
  have d1 := K1b.out.at 1 _ rfl
  go_wp2_with fail
  have R0 : Hid (w1.ownsRow w1.heap.size tKp 15 (.slice none 0 0) (sweepC (l.take 0) now).length (flat cellsP (sweepC (l.take 0) now))) := World.ownsRow_nil ..
  go_loopw [5, 7, 11] (fun out _ i wr => ∃ k : Nat, k ≤ l.length ∧ i = .int .i64 k ∧ Hid (wr.ownsRow w1.heap.size tKp 15 out (sweepC (l.take k) now).length (flat cellsP (sweepC (l.take k) now))) ∧ Hid (Below w1.heap.size w1 wr)) (fun _ _ i _ => l.length - (intOf i).toNat)
  case atStart => exact ⟨0, Nat.zero_le _, rfl, R0, Below.refl _ _⟩
  clear R0 d1
  case round =>
    obtain ⟨k, hk, rfl, hR, hB⟩ := hrel
    obtain ⟨wq, hwq⟩ : ∃ wq, wq = wr := ⟨wr, rfl⟩
    subst hwq
    by_cases hlt : k < l.length
    · obtain ⟨g, off, rfl, hg, hc⟩ := (L2.out.next hB.out).get k hlt
      have HSK := Lib.hid (sweep_snoc l k hlt now)
      have HLK : Hid ((sweepC (l.take k) now).length ≤ k) := by unfold Hid sweepC; exact Nat.le_trans (List.length_filter_le _ _) (by rw [List.length_take]; omega)
      obtain ⟨x, hx⟩ := name_it l[k]
      rw [hx.out] at hc HSK
      obtain ⟨acc, hacc⟩ := name_it (sweepC (l.take k) now)
      rw [hacc.out] at hR HSK HLK
      obtain ⟨so2, co2, hout2⟩ := row_slice hR.out
      subst hout2
      have OV := Lib.hid (fun wx => rover_any x now wx)
      obtain ⟨V, hV⟩ := name_it (x.over now)
      rw [hV.out] at HSK OV
      have XC := Lib.hid (fun wx => CellsAt.first wx (cellsP x) tKp)
      have AP : Hid (cellsP x = cellsP x) := rfl
      clear hx hacc hV
      obtain ⟨⟨nm, v, p, d, ma, hm, ex, he, sc, ht, sm⟩, dom, path, till, ends⟩ := x
      have z0 : wq.cell? ⟨g, off + k * 15, none⟩ = some (.string (bs nm)) := hc 0 _ (by decide) rfl
      have z1 : wq.cell? ⟨g, off + k * 15 + 1, none⟩ = some (.string (bs v)) := hc 1 _ (by decide) rfl
      have z2 : wq.cell? ⟨g, off + k * 15 + 2, none⟩ = some (.string (bs p)) := hc 2 _ (by decide) rfl
      have z3 : wq.cell? ⟨g, off + k * 15 + 3, none⟩ = some (.string (bs d)) := hc 3 _ (by decide) rfl
      have z4 : wq.cell? ⟨g, off + k * 15 + 4, none⟩ = some (.int .i64 ma) := hc 4 _ (by decide) rfl
      have z5 : wq.cell? ⟨g, off + k * 15 + 5, none⟩ = some (.bool hm) := hc 5 _ (by decide) rfl
      have z6 : wq.cell? ⟨g, off + k * 15 + 6, none⟩ = some (.int .i64 ex) := hc 6 _ (by decide) rfl
      have z7 : wq.cell? ⟨g, off + k * 15 + 7, none⟩ = some (.bool he) := hc 7 _ (by decide) rfl
      have z8 : wq.cell? ⟨g, off + k * 15 + 8, none⟩ = some (.bool sc) := hc 8 _ (by decide) rfl
      have z9 : wq.cell? ⟨g, off + k * 15 + 9, none⟩ = some (.bool ht) := hc 9 _ (by decide) rfl
      have z10 : wq.cell? ⟨g, off + k * 15 + 10, none⟩ = some (.int .i64 sm) := hc 10 _ (by decide) rfl
      have z11 : wq.cell? ⟨g, off + k * 15 + 11, none⟩ = some (.string (bs dom)) := hc 11 _ (by decide) rfl
      have z12 : wq.cell? ⟨g, off + k * 15 + 12, none⟩ = some (.string (bs path)) := hc 12 _ (by decide) rfl
      have z13 : wq.cell? ⟨g, off + k * 15 + 13, none⟩ = some (.int .i64 till) := hc 13 _ (by decide) rfl
      have z14 : wq.cell? ⟨g, off + k * 15 + 14, none⟩ = some (.bool ends) := hc 14 _ (by decide) rfl
      unfold cellsP cellsS at OV XC
      simp only [List.cons_append, List.nil_append] at OV XC
      clear hc AP
      go_upto_region 5 with fail
      all_goals (try (exfalso; omega))
      have KC := Lib.hid (XC.out wq)
      have BA := Lib.hid (hB.out.alloc hB.out.size (.cells #[.string (bs nm), .string (bs v), .string (bs p), .string (bs d), .int .i64 ma, .bool hm, .int .i64 ex, .bool he, .bool sc, .bool ht, .int .i64 sm, .string (bs dom), .string (bs path), .int .i64 till, .bool ends] tKp))
      have RA := Lib.hid (hR.out.alloc (.cells #[.string (bs nm), .string (bs v), .string (bs p), .string (bs d), .int .i64 ma, .bool hm, .int .i64 ex, .bool he, .bool sc, .bool ht, .int .i64 sm, .string (bs dom), .string (bs path), .int .i64 till, .bool ends] tKp))
      clear z0 z1 z2 z3 z4 z5 z6 z7 z8 z9 z10 z11 z12 z13 z14 hB hR XC
      obtain ⟨m, hm'⟩ := name_it wq.heap.size
      rw [hm'.out] at KC ⊢
      clear hm'
      generalize wq.alloc _ = w5 at KC BA RA ⊢
      have z0 : w5.cell? ⟨m, 0, none⟩ = some (.string (bs nm)) := KC.out.at 0 _ rfl
      have z1 : w5.cell? ⟨m, 1, none⟩ = some (.string (bs v)) := KC.out.at 1 _ rfl
      have z2 : w5.cell? ⟨m, 2, none⟩ = some (.string (bs p)) := KC.out.at 2 _ rfl
      have z3 : w5.cell? ⟨m, 3, none⟩ = some (.string (bs d)) := KC.out.at 3 _ rfl
      have z4 : w5.cell? ⟨m, 4, none⟩ = some (.int .i64 ma) := KC.out.at 4 _ rfl
      have z5 : w5.cell? ⟨m, 5, none⟩ = some (.bool hm) := KC.out.at 5 _ rfl
      have z6 : w5.cell? ⟨m, 6, none⟩ = some (.int .i64 ex) := KC.out.at 6 _ rfl
      have z7 : w5.cell? ⟨m, 7, none⟩ = some (.bool he) := KC.out.at 7 _ rfl
      have z8 : w5.cell? ⟨m, 8, none⟩ = some (.bool sc) := KC.out.at 8 _ rfl
      have z9 : w5.cell? ⟨m, 9, none⟩ = some (.bool ht) := KC.out.at 9 _ rfl
      have z10 : w5.cell? ⟨m, 10, none⟩ = some (.int .i64 sm) := KC.out.at 10 _ rfl
      have z11 : w5.cell? ⟨m, 11, none⟩ = some (.string (bs dom)) := KC.out.at 11 _ rfl
      have z12 : w5.cell? ⟨m, 12, none⟩ = some (.string (bs path)) := KC.out.at 12 _ rfl
      have z13 : w5.cell? ⟨m, 13, none⟩ = some (.int .i64 till) := KC.out.at 13 _ rfl
      have z14 : w5.cell? ⟨m, 14, none⟩ = some (.bool ends) := KC.out.at 14 _ rfl
      go_wp2_with fail
      refine (OV.out _).mono ?_; rintro e w6 ⟨rfl, hb6⟩
      have KD := Lib.hid (KC.out.next hb6)
      have BB := Lib.hid (BA.out.trans (hb6.mono BA.out.size))
      have RB := Lib.hid (row_kept RA.out (w' := w6) (fun g hg => hb6.block g (World.ownsRow.lt RA.out g hg).2))
      clear z0 z1 z2 z3 z4 z5 z6 z7 z8 z9 z10 z11 z12 z13 z14 BA RA KC hb6 OV
      cases V with
      | true =>
        have QB : Hid (w6.ownsRow w1.heap.size tKp 15 (.slice so2 acc.length co2) (sweepC (l.take (k + 1)) now).length (flat cellsP (sweepC (l.take (k + 1)) now))) := by
          rw [HSK.out, if_pos rfl, List.append_nil]; exact RB
        clear RB
        go_wp2_with fail
        go_roundw
        case rel => exact ⟨k + 1, by omega, by go_num, QB, BB⟩
        case measure => simp [intOf]; omega
      | false =>
        have z0 : w6.cell? ⟨m, 0, none⟩ = some (.string (bs nm)) := KD.out.at 0 _ rfl
        have z1 : w6.cell? ⟨m, 1, none⟩ = some (.string (bs v)) := KD.out.at 1 _ rfl
        have z2 : w6.cell? ⟨m, 2, none⟩ = some (.string (bs p)) := KD.out.at 2 _ rfl
        have z3 : w6.cell? ⟨m, 3, none⟩ = some (.string (bs d)) := KD.out.at 3 _ rfl
        have z4 : w6.cell? ⟨m, 4, none⟩ = some (.int .i64 ma) := KD.out.at 4 _ rfl
        have z5 : w6.cell? ⟨m, 5, none⟩ = some (.bool hm) := KD.out.at 5 _ rfl
        have z6 : w6.cell? ⟨m, 6, none⟩ = some (.int .i64 ex) := KD.out.at 6 _ rfl
        have z7 : w6.cell? ⟨m, 7, none⟩ = some (.bool he) := KD.out.at 7 _ rfl
        have z8 : w6.cell? ⟨m, 8, none⟩ = some (.bool sc) := KD.out.at 8 _ rfl
        have z9 : w6.cell? ⟨m, 9, none⟩ = some (.bool ht) := KD.out.at 9 _ rfl
        have z10 : w6.cell? ⟨m, 10, none⟩ = some (.int .i64 sm) := KD.out.at 10 _ rfl
        have z11 : w6.cell? ⟨m, 11, none⟩ = some (.string (bs dom)) := KD.out.at 11 _ rfl
        have z12 : w6.cell? ⟨m, 12, none⟩ = some (.string (bs path)) := KD.out.at 12 _ rfl
        have z13 : w6.cell? ⟨m, 13, none⟩ = some (.int .i64 till) := KD.out.at 13 _ rfl
        have z14 : w6.cell? ⟨m, 14, none⟩ = some (.bool ends) := KD.out.at 14 _ rfl
        have hBd : w1.heap.size ≤ w6.heap.size := BB.out.size
        go_wp2_with (at_builtin; refine appendS (by rfl) _ _ 55 (by rfl) w1.heap.size tKp i1 (.agg #[.string ⟨#[]⟩, .string ⟨#[]⟩, .string ⟨#[]⟩, .string ⟨#[]⟩, .int .i64 0, .bool false, .int .i64 0, .bool false, .bool false, .bool false, .int .i64 0, .string ⟨#[]⟩, .string ⟨#[]⟩, .int .i64 0, .bool false]) 15 152 Tryz.underlying55 ci cz0 cz1 cz2 rfl (by decide) RB.out (by rfl) (cellsP ⟨⟨nm, v, p, d, ma, hm, ex, he, sc, ht, sm⟩, dom, path, till, ends⟩) rfl (cellsP_one _) (by rfl) (by have := HLK.out; unfold maxLen; omega) (by have := HLK.out; omega) hBd ?_)
        all_goals (try (exfalso; omega))
        intro g8 cap8 w8 hg8 hown8 hb8
        have Q8 : Hid (w8.ownsRow w1.heap.size tKp 15 (.slice (some ⟨g8, 0, none⟩) (acc.length + 1) cap8) (sweepC (l.take (k + 1)) now).length (flat cellsP (sweepC (l.take (k + 1)) now))) := by
          rw [HSK.out, if_neg (by decide), List.length_append, List.length_singleton, flat_snoc]; exact hown8
        have B8 := Lib.hid (BB.out.trans hb8)
        clear hown8 hb8
        go_wp2_with fail
        go_roundw
        case rel => exact ⟨k + 1, by omega, by go_num, Q8, B8⟩
        case measure => simp [intOf]; omega
    · obtain rfl : k = l.length := by omega
      rw [List.take_length] at hR
      obtain ⟨so, co, hout⟩ := row_slice hR.out
      subst hout
      have LL := Lib.hid (row_lies cellsP_len hR.out)
      have CA := Lib.hid (row_cap hR.out)
      have KA := Lib.hid (K1b.out.next hB.out)
      have KR := Lib.hid (K2.out.next hB.out)
      have BA := Lib.hid (B2.out.trans (hB.out.mono B2.out.size))
      have B2s := Lib.hid B2.out.size
      have GL : Hid (∀ g, (Value.slice so (sweepC l now).length co).ownBlock = some g → w1.heap.size ≤ g) := fun g hg => (World.ownsRow.lt hR.out g hg).1
      obtain ⟨S, hS⟩ := name_it (sweepC l now)
      have HS9 : Hid (sweepC l now = S) := hS.out
      rw [hS.out] at LL CA GL hR ⊢
      have x0 := KA.out.at 0 _ rfl
      have x1 := KA.out.at 1 _ rfl
      have y1 := KA.out.free 1
      clear K1b K2 B2 L2
      go_upto_region 9 with fail
      all_goals (try (exfalso; omega))
      have KB : Hid (CellsAt (wq.setCell ⟨b, 1, none⟩ (.slice so S.length co)) b [.int .i64 most, .slice so S.length co]) := KA.out.set 1 (by show 1 < 2; decide) _
      have KS : Hid (CellsAt (wq.setCell ⟨b, 1, none⟩ (.slice so S.length co)) r [.int .i64 0, .slice none 0 0]) := KR.out.other (by have := HB.out.2; omega) 1 _
      have BB : Hid (Below w.heap.size w (wq.setCell ⟨b, 1, none⟩ (.slice so S.length co))) := below_set BA.out (by rw [HB.out.1]; exact Nat.le_refl _)
      have RB := Lib.hid (row_kept hR.out (w' := wq.setCell ⟨b, 1, none⟩ (.slice so S.length co)) (fun g hg => Below.heap_setCell wq ⟨b, 1, none⟩ _ g (fun e => by
        have h1 := GL.out g hg
        have h2 := HW1.out.1
        have h3 : g = b := e
        omega)))
      clear x0 x1 y1 KA KR BA hR hB LL
      generalize wq.setCell ⟨b, 1, none⟩ _ = w7 at KB KS BB RB ⊢
      have x0 := KB.out.at 0 _ rfl
      have x1 := KB.out.at 1 _ rfl
      have z0 := KS.out.at 0 _ rfl
      have z1 := KS.out.at 1 _ rfl
      have y0 := KS.out.free 0
      have y1 := KS.out.free 1
      have KE := Lib.hid (KS.out.put [.int .i64 most, .slice so S.length co] rfl)
      have DE := Lib.hid (putAll_below [.int .i64 most, .slice so S.length co] 0 _ _ BB.out (show w.heap.size ≤ r by have := HB.out; omega))
      have RE := Lib.hid (row_kept RB.out (w' := putAll w7 r 0 [.int .i64 most, .slice so S.length co]) (fun g hg => (Keeps.put (S := fun i => i = r) (b := r) rfl [.int .i64 most, .slice so S.length co] 0 w7).block g (World.ownsRow.lt RB.out g hg).2 (fun e => by
        have h1 := GL.out g hg
        have h2 := HW1.out.2
        have h3 : g = r := e
        omega)))
      unfold putAll putAll putAll at KE DE RE
      have f0 := KE.out.at 0 _ rfl
      have f1 := KE.out.at 1 _ rfl
      simp only [Nat.zero_add] at DE f0 f1 RE
      have LL := Lib.hid (row_lies cellsP_len RE.out)
      clear KE RE RB
      go_wp2_with fail
      refine bodyPost_ret (v := .agg #[.int .i64 most, .slice so S.length co]) (by simp [results, Tryz.results66, go_sem, f0, f1]) rfl ?_
      refine ⟨⟨so, co, ?_⟩, DE.out⟩
      rw [HS9.out]
      exact ⟨rfl, CA.out, LL.out, fun g off h => by subst h; exact Nat.le_trans B2s.out (GL.out g rfl)⟩
end Go.Proofs.YtkenianfpfamcaaGreatDoor
namespace Go.Proofs.YtkenianfpfamcaaGreatDoor
open Go Go.RowKit

theorem four {w : World} (l1 l2 l3 l4 : List Value) (t1 t2 t3 t4 : TypeId) :
    CellsAt ((((w.alloc (.cells l1.toArray t1)).alloc (.cells l2.toArray t2)).alloc (.cells l3.toArray t3)).alloc (.cells l4.toArray t4)) w.heap.size l1 ∧
    CellsAt ((((w.alloc (.cells l1.toArray t1)).alloc (.cells l2.toArray t2)).alloc (.cells l3.toArray t3)).alloc (.cells l4.toArray t4)) (w.heap.size + 1) l2 ∧
    CellsAt ((((w.alloc (.cells l1.toArray t1)).alloc (.cells l2.toArray t2)).alloc (.cells l3.toArray t3)).alloc (.cells l4.toArray t4)) (w.heap.size + 2) l3 ∧
    CellsAt ((((w.alloc (.cells l1.toArray t1)).alloc (.cells l2.toArray t2)).alloc (.cells l3.toArray t3)).alloc (.cells l4.toArray t4)) (w.heap.size + 3) l4 ∧
    Below w.heap.size w ((((w.alloc (.cells l1.toArray t1)).alloc (.cells l2.toArray t2)).alloc (.cells l3.toArray t3)).alloc (.cells l4.toArray t4)) := by
  have s1 : (w.alloc (.cells l1.toArray t1)).heap.size = w.heap.size + 1 := by show (w.heap.push _).size = _; rw [Array.size_push]
  have k1 := CellsAt.first w l1 t1
  have b1 := below_put2 (w := w) (cs := l1.toArray) (T := t1)
  generalize w.alloc (.cells l1.toArray t1) = w1 at s1 k1 b1 ⊢
  have s2 : (w1.alloc (.cells l2.toArray t2)).heap.size = w1.heap.size + 1 := by show (w1.heap.push _).size = _; rw [Array.size_push]
  have k2 := CellsAt.first w1 l2 t2
  have b2 := below_put2 (w := w1) (cs := l2.toArray) (T := t2)
  have k12 := k1.next b2
  generalize w1.alloc (.cells l2.toArray t2) = w2 at s2 k2 b2 k12 ⊢
  have s3 : (w2.alloc (.cells l3.toArray t3)).heap.size = w2.heap.size + 1 := by show (w2.heap.push _).size = _; rw [Array.size_push]
  have k3 := CellsAt.first w2 l3 t3
  have b3 := below_put2 (w := w2) (cs := l3.toArray) (T := t3)
  have k13 := k12.next b3
  have k23 := k2.next b3
  generalize w2.alloc (.cells l3.toArray t3) = w3 at s3 k3 b3 k13 k23 ⊢
  have k4 := CellsAt.first w3 l4 t4
  have b4 := below_put2 (w := w3) (cs := l4.toArray) (T := t4)
  rw [s1] at k23
  have e2 : w2.heap.size = w.heap.size + 2 := by omega
  have e3 : w3.heap.size = w.heap.size + 3 := by omega
  rw [e2] at k3
  have k34 := k3.next b4
  have k24 := k23.next b4
  have k14 := k13.next b4
  rw [e3] at k4
  exact ⟨k14, k24, k34, k4, ((b1.trans (b2.mono (by omega))).trans (b3.mono (by omega))).trans (b4.mono (by omega))⟩
theorem row_cell {α : Type} {f : α → List Value} {n : Nat} (hn : ∀ x, (f x).length = n) {w : World} {base g cap : Nat} {T : TypeId} {l : List α} (h : w.ownsRow base T n (.slice (some ⟨g, 0, none⟩) l.length cap) l.length (flat f l)) (k : Nat) (hk : k < l.length) (j : Nat) (hj : j < n) (v : Value) (hv : (f l[k])[j]? = some v) : w.cell? ⟨g, k * n + j, none⟩ = some v := by
  have hb : k * n + n ≤ l.length * n := by rw [← Nat.succ_mul]; exact Nat.mul_le_mul_right _ hk
  rw [h.cellAt (k * n + j) (by omega), flat_get hn l k hk j hj, hv]
theorem put15 (w : World) (b k : Nat) (v0 v1 v2 v3 v4 v5 v6 v7 v8 v9 v10 v11 v12 v13 v14 : Value) : (((((((((((((((w.setCell ⟨b, k, none⟩ v0).setCell ⟨b, k + 1, none⟩ v1).setCell ⟨b, k + 2, none⟩ v2).setCell ⟨b, k + 3, none⟩ v3).setCell ⟨b, k + 4, none⟩ v4).setCell ⟨b, k + 5, none⟩ v5).setCell ⟨b, k + 6, none⟩ v6).setCell ⟨b, k + 7, none⟩ v7).setCell ⟨b, k + 8, none⟩ v8).setCell ⟨b, k + 9, none⟩ v9).setCell ⟨b, k + 10, none⟩ v10).setCell ⟨b, k + 11, none⟩ v11).setCell ⟨b, k + 12, none⟩ v12).setCell ⟨b, k + 13, none⟩ v13).setCell ⟨b, k + 14, none⟩ v14) =
    putAll w b k [v0, v1, v2, v3, v4, v5, v6, v7, v8, v9, v10, v11, v12, v13, v14] := rfl
theorem CellsAt.low {w w' : World} {b B : Nat} {cs : List Value} (h : CellsAt w b cs) (hb : Below B w w') (hB : b < B) : CellsAt w' b cs where
  cell j hj := by rw [hb.cell (p := ⟨b, j, none⟩) hB]; exact h.cell j hj
  free j := by rw [hb.frozen (p := ⟨b, j, none⟩) hB]; exact h.free j
  lt := Nat.lt_of_lt_of_le h.lt hb.size
theorem Lies.far {α : Type} {f : α → List Value} {n : Nat} {w : World} {p : Option Addr} {l : List α} (h : Lies f n w p l) {b k : Nat} {v : Value} (hb : ∀ g off, p = some ⟨g, off, none⟩ → g ≠ b) : Lies f n (w.setCell ⟨b, k, none⟩ v) p l := by
  constructor
  rcases h.mem with h | ⟨g, off, h1, h2, h3⟩
  · exact Or.inl h
  · exact Or.inr ⟨g, off, h1, by rw [World.size_setCell]; exact h2, fun i hi j hj => by rw [World.cell?_setCell_other _ _ _ _ (by intro e; injection e with e1 _; exact hb g off h1 e1.symm)]; exact h3 i hi j hj⟩
/-- 'append(v, x)', x a struct, v of the call's own: all other blocks stay -/
theorem appendK {P : Program} {w : World} {ops : Array Oper} {rest : List Oper} {o : Oper} {a : Act} {Q : Exit → Act → World → Prop} (hgd : o.guard = none) (s x : Operand) (t : TypeId)
    (ho : o.op = .call { callee := .builtin .append, args := #[s, x], argTypes := #[t, t] })
    (base : Nat) (e : TypeId) (i : TypeInfo) (z : Value) (n bytes : Nat) (ht : P.underlying t = some (.slice e)) (hi : P.info? e = some i) (hz : i.zero = some z)
    (hsize : i.size = n) (hby : i.bytes = bytes) (hzs : z.cells.size = n) (hn0 : 0 < n)
    {v : Value} {m : Nat} {xs : List Value} (hown : w.ownsRow base e n v m xs) (hs : a.eval s = v)
    (us : List Value) (hul : us.length = n) (hu : ∀ u ∈ us, u.oneCell' = true) (hx : a.eval x = .slice (some ⟨w.heap.size, 0, none⟩) 1 1)
    (hn : m + 1 ≤ maxLen) (hbytes : (m + 1) * bytes ≤ 140737488355328) (hbase : base ≤ w.heap.size)
    (h : ∀ g cap w', base ≤ g → w'.ownsRow base e n (.slice (some ⟨g, 0, none⟩) (m + 1) cap) (m + 1) (xs ++ us) → Below base w w' → (v.ownBlock = some g ∨ w.heap.size ≤ g) → Keeps (fun j => v.ownBlock = some j) w w' → wpList P ops Q rest (a.put o.dst (.slice (some ⟨g, 0, none⟩) (m + 1) cap)) w') :
    wpList P ops Q (o :: rest) a (w.alloc (.cells us.toArray e)) := by
  have hsz : (w.alloc (.cells us.toArray e)).heap.size = w.heap.size + 1 := by
    show (w.heap.push _).size = _
    rw [Array.size_push]
  have hw : base ≤ (w.alloc (.cells us.toArray e)).heap.size := by omega
  refine wpList_append_own_at (w := w.alloc (.cells us.toArray e)) hgd s x t ho base e i z n bytes ht hi hz hsize hby hzs hn0 v m xs hs (hown.alloc _) ⟨w.heap.size, 0, none⟩ 1 1 us hx (by rw [hul, Nat.one_mul]) ?_ hu hn hbytes hw ?_
  · intro j y hj
    rw [Addr.add_lit]
    have := (CellsAt.first w us e).at j y hj
    simpa using this
  · intro v' w' hown' hgrow _ hat
    rcases hown'.2 with ⟨_, h0⟩ | ⟨g, cap, cur, rfl, hg, _⟩
    · omega
    · have bal : Below w.heap.size w (w.alloc (.cells us.toArray e)) := below_put2
      refine h g cap w' hg hown' (((Below.refl _ _).alloc hbase _).trans (own_below (hown.alloc _) hgrow hw)) ?_ ?_
      · rcases hat with h | h
        · exact Or.inl h.symm
        · right
          have h : some g = some (w.alloc (.cells us.toArray e)).heap.size := h
          injection h with h
          omega
      · exact ⟨hgrow.os.trans bal.os, hgrow.tape.trans bal.tape, hgrow.output.trans bal.output, Nat.le_trans bal.size hgrow.size, fun j hj hne => (hgrow.block j (by omega) (fun e => hne e.symm)).trans (bal.block j hj)⟩
theorem row_cell2 {α : Type} {f : α → List Value} {n N : Nat} (hn : ∀ x, (f x).length = n) {w : World} {base g cap : Nat} {T : TypeId} {l : List α} (h : w.ownsRow base T n (.slice (some ⟨g, 0, none⟩) N cap) N (flat f l)) (hN : l.length = N) (k : Nat) (hk : k < l.length) (j : Nat) (hj : j < n) (v : Value) (hv : (f l[k])[j]? = some v) : w.cell? ⟨g, k * n + j, none⟩ = some v := by
  subst hN
  exact row_cell hn h k hk j hj v hv
theorem set_mid {α : Type} (A R : List α) (h k : α) : (A ++ h :: R).set A.length k = A ++ k :: R := by
  rw [List.set_append_right _ _ (Nat.le_refl _), Nat.sub_self]; rfl
end Go.Proofs.YtkenianfpfamcaaGreatDoor
