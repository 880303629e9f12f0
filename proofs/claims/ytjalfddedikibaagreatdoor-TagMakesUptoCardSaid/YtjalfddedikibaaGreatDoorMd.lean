/- Fields copied to a slice of the call's own, one more appended: steps of a region that draws. Fields copied to a slice of the call's own, in a region whose order is fixed. -/
import Derived.Test.YtjalfddedikibaaGreatDoorTagFJ
import Derived.Deep.Upon
import Derived.Maps.AppendAt
namespace Go.Proofs.YtjalfddedikibaaGreatDoor
open Go Go.RowKit

def rowFd (l : List Fd) : List Value := l.flatMap fun f => [.string (bs f.1), .string (bs f.2)]
theorem rowFd_snoc (l : List Fd) (f : Fd) : rowFd (l ++ [f]) = rowFd l ++ [.string (bs f.1), .string (bs f.2)] := by unfold rowFd; rw [List.flatMap_append]; rfl
theorem rowFd_len (l : List Fd) : (rowFd l).length = l.length * 2 := by
  induction l with
  | nil => rfl
  | cons a l ih =>
    show ([Value.string (bs a.1), Value.string (bs a.2)] ++ rowFd l).length = _
    rw [List.length_append, ih]; show 2 + l.length * 2 = (l.length + 1) * 2; omega
theorem rowFd_get : ∀ (l : List Fd) (k : Nat) (h : k < l.length), (rowFd l)[k * 2]? = some (.string (bs l[k].1)) ∧ (rowFd l)[k * 2 + 1]? = some (.string (bs l[k].2))
  | a :: l, 0, _ => ⟨rfl, rfl⟩
  | a :: l, k + 1, h => by
    have ih := rowFd_get l k (by simpa using h)
    have e : rowFd (a :: l) = .string (bs a.1) :: .string (bs a.2) :: rowFd l := rfl
    rw [e, show (k + 1) * 2 = k * 2 + 1 + 1 by omega, List.getElem?_cons_succ, List.getElem?_cons_succ, List.getElem?_cons_succ, List.getElem?_cons_succ]
    exact ih
theorem rowFd_one (l : List Fd) : ∀ u ∈ rowFd l, u.oneCell' = true := by
  intro u hu
  unfold rowFd at hu
  obtain ⟨f, _, hf⟩ := List.mem_flatMap.1 hu
  simp only [List.mem_cons, List.not_mem_nil, or_false] at hf
  rcases hf with rfl | rfl <;> rfl
theorem fd_of_row {w : World} {B : Nat} {v : Value} {l : List Fd} (h : w.ownsRow B tF 2 v l.length (rowFd l)) : FdSl w v l := by
  rcases h.2 with ⟨hv, h0⟩ | ⟨g, cap, cur, hv, _, hgg, _⟩
  · have : l = [] := List.eq_nil_of_length_eq_zero h0
    subst this
    exact ⟨none, 0, hv, fun j hj => by simp at hj⟩
  · subst hv
    refine ⟨_, cap, rfl, fun j hj => ⟨g, 0, rfl, (Array.getElem?_eq_some_iff.1 hgg).1, ?_, ?_⟩⟩
    · rw [Nat.zero_add]; exact (h.cellAt (j * 2) (by omega)).trans (rowFd_get l j hj).1
    · rw [Nat.zero_add]; exact (h.cellAt (j * 2 + 1) (by omega)).trans (rowFd_get l j hj).2

theorem step_append_at {P : Program} {w : World} {ops : Array Oper} {o : Oper} {a : Act} {K : Act → World → Prop} {Q : Exit → Act → World → Prop} {E : Prop} (hgd : o.guard = none) (s x : Operand) (t : TypeId)
    (ho : o.op = .call { callee := .builtin .append, args := #[s, x], argTypes := #[t, t] })
    (base : Nat) (e : TypeId) (i : TypeInfo) (z : Value) (size bytes : Nat) (ht : P.underlying t = some (.slice e)) (hi : P.info? e = some i) (hz : i.zero = some z)
    (hsize : i.size = size) (hby : i.bytes = bytes) (hzs : z.cells.size = size) (hsz : 0 < size)
    (v : Value) (n : Nat) (xs : List Value) (hs : a.eval s = v) (hown : w.ownsRow base e size v n xs)
    (ad : Addr) (m c : Nat) (news : List Value) (hx : a.eval x = .slice (some ad) m c) (hl : news.length = m * size) (hnews : ∀ j u, news[j]? = some u → w.cell? (ad.add j) = some u) (h1 : ∀ u ∈ news, u.oneCell' = true)
    (h63 : n + m ≤ maxLen) (hbytes : (n + m) * bytes ≤ 140737488355328) (hbase : base ≤ w.heap.size)
    (h : ∀ v' w', w'.ownsRow base e size v' (n + m) (xs ++ news) → w.grownBy w' v.ownBlock → (v' = .slice none 0 0 ↔ v = .slice none 0 0 ∧ m = 0) → (v'.ownBlock = v.ownBlock ∨ v'.ownBlock = some w.heap.size) → K (a.put o.dst v') w') :
    if Region.wanted o (yielded ops a.tmps) = true then Oper.wp P o a w K Q else E := by
  have hw : Region.wanted o (yielded ops a.tmps) = true := by simp [Region.wanted, hgd]
  rw [if_pos hw]
  obtain ⟨v', w', hr, h2, h3, h4, h5⟩ := run_append_own_at (P := P) w base t o.type e i z size bytes ht hi hz hsize hby hzs hsz v n xs hown ad m c news hl hnews h1 h63 hbytes hbase
  unfold Oper.wp execOp
  simp only [ho, resolve, invoke, builtin, Sem.run_bind, Sem.run_pure, Result.andThen_ok, List.map_toArray, List.map_cons, List.map_nil, hs, hx, hr]
  exact h v' w' h2 h3 h4 h5
/-- 'append([]T{}, nil...)' -/
theorem step_append_nil {P : Program} {w : World} {ops : Array Oper} {o : Oper} {a : Act} {K : Act → World → Prop} {Q : Exit → Act → World → Prop} {E : Prop} (hgd : o.guard = none) (s x : Operand) (t : TypeId)
    (ho : o.op = .call { callee := .builtin .append, args := #[s, x], argTypes := #[t, t] })
    (e : TypeId) (i : TypeInfo) (ht : P.underlying t = some (.slice e)) (hi : P.info? e = some i)
    {p : Option Addr} {n c c' : Nat} (hnc : n ≤ c) (hs : a.eval s = .slice p n c) (hx : a.eval x = .slice none 0 c')
    (h : K (a.put o.dst (.slice p n c)) w) :
    if Region.wanted o (yielded ops a.tmps) = true then Oper.wp P o a w K Q else E := by
  have hw : Region.wanted o (yielded ops a.tmps) = true := by simp [Region.wanted, hgd]
  rw [if_pos hw]
  have hr := run_append_nothing (P := P) w t t o.type e i ht hi p n c hnc (.slice none 0 c') (Src.ofNil w ht c')
  unfold Oper.wp execOp
  simp only [ho, resolve, invoke, builtin, Sem.run_bind, Sem.run_pure, Result.andThen_ok, List.map_toArray, List.map_cons, List.map_nil, hs, hx, hr]
  exact h
theorem infoF : (Tryz.prog.info? tF).map (fun i => (i.zero, i.size, i.bytes)) = some (some (.agg #[.string ⟨#[]⟩, .string ⟨#[]⟩]), 2, 32) := by kernel_rfl
theorem own_belowF {w w' : World} {base : Nat} {v : Value} {e : TypeId} {size n : Nat} {xs : List Value} (hown : w.ownsRow base e size v n xs) (hg : w.grownBy w' v.ownBlock) (hbase : base ≤ w.heap.size) : Below base w w' :=
  (Below.refl _ _).grown hg hbase (fun k hk => (hown.lt k hk).1)
/-- fields appended to an empty slice of the call's own -/
theorem step_append_fd {w : World} {ops : Array Oper} {o : Oper} {a : Act} {K : Act → World → Prop} {Q : Exit → Act → World → Prop} {E : Prop} (hgd : o.guard = none) (s x : Operand)
    (ho : o.op = .call { callee := .builtin .append, args := #[s, x], argTypes := #[22, 22] })
    {base : Nat} {p : Option Addr} {c : Nat} (hs : a.eval s = .slice p 0 c) (hown : w.ownsRow base tF 2 (.slice p 0 c) 0 [])
    {va : Value} {l : List Fd} (hv : FdSl w va l) (hx : a.eval x = va) (hl : l.length ≤ 1048576) (hbase : base ≤ w.heap.size)
    (h : ∀ v' w', w'.ownsRow base tF 2 v' l.length (rowFd l) → Below base w w' → K (a.put o.dst v') w') :
    if Region.wanted o (yielded ops a.tmps) = true then Oper.wp Tryz.prog o a w K Q else E := by
  obtain ⟨i0, hi, hz0, hz1, hz2⟩ := info_parts infoF
  obtain ⟨q, cap, rfl, hc⟩ := hv
  cases q with
  | none =>
    have hl0 : l = [] := by
      cases l with
      | nil => rfl
      | cons f r =>
        obtain ⟨b, off, hp, _⟩ := hc 0 (by simp)
        cases hp
    subst hl0
    exact step_append_nil hgd s x _ ho tF i0 Tryz.underlying22 hi (Nat.zero_le _) hs hx (h _ _ hown (Below.refl _ _))
  | some ad =>
    refine step_append_at hgd s x _ ho base tF i0 _ 2 32 Tryz.underlying22 hi hz0 hz1 hz2 rfl (by decide) _ 0 [] hs hown ad l.length cap (rowFd l) hx (rowFd_len l) ?_ (rowFd_one l) (by unfold maxLen; omega) (by omega) hbase ?_
    · intro j u hu
      have hj : j < l.length * 2 := by
        have := (List.getElem?_eq_some_iff.1 hu).1; rw [rowFd_len] at this; exact this
      obtain ⟨b, off, hp, hlt, h1, h2⟩ := hc (j / 2) (by omega)
      obtain rfl : ad = ⟨b, off, none⟩ := by injection hp
      rw [Addr.add_lit]
      rcases Nat.mod_two_eq_zero_or_one j with hm | hm
      · have e : j = j / 2 * 2 := by omega
        have h3 := (rowFd_get l (j / 2) (by omega)).1
        rw [← e] at h3 h1
        rw [h3] at hu
        exact h1.trans hu
      · have e : j = j / 2 * 2 + 1 := by omega
        have h3 := (rowFd_get l (j / 2) (by omega)).2
        rw [← e] at h3
        rw [Nat.add_assoc, ← e] at h2
        rw [h3] at hu
        exact h2.trans hu
    · intro v' w' h2 h3 _ _
      rw [Nat.zero_add, List.nil_append] at h2
      exact h v' w' h2 (own_belowF hown h3 hbase)
/-- 'append(v, x)', x of some cells laid in a new block -/
theorem step_append_c {P : Program} {w : World} {ops : Array Oper} {o : Oper} {a : Act} {K : Act → World → Prop} {Q : Exit → Act → World → Prop} {E : Prop} (hgd : o.guard = none) (s x : Operand) (t : TypeId)
    (ho : o.op = .call { callee := .builtin .append, args := #[s, x], argTypes := #[t, t] })
    (base : Nat) (e : TypeId) (i : TypeInfo) (z : Value) (sz bytes : Nat) (ht : P.underlying t = some (.slice e)) (hi : P.info? e = some i) (hz : i.zero = some z)
    (hsize : i.size = sz) (hby : i.bytes = bytes) (hzs : z.cells.size = sz) (hsz0 : 0 < sz)
    {v : Value} {n : Nat} {xs : List Value} (hown : w.ownsRow base e sz v n xs) (hs : a.eval s = v)
    (cs : Array Value) (hc8 : cs.size = sz) (hu : ∀ u ∈ cs.toList, u.oneCell' = true) {nb : Nat} (hx : a.eval x = .slice (some ⟨nb, 0, none⟩) 1 1) (hnb : nb = w.heap.size)
    (hn : n + 1 ≤ maxLen) (hbytes : (n + 1) * bytes ≤ 140737488355328) (hbase : base ≤ w.heap.size)
    (h : ∀ v' w', w'.ownsRow base e sz v' (n + 1) (xs ++ cs.toList) → Below base w w' → (∀ j, j < w.heap.size → v.ownBlock ≠ some j → w'.heap[j]? = w.heap[j]?) → K (a.put o.dst v') w') :
    if Region.wanted o (yielded ops a.tmps) = true then Oper.wp P o a (w.alloc (.cells cs e)) K Q else E := by
  subst hnb
  have hsz : (w.alloc (.cells cs e)).heap.size = w.heap.size + 1 := Array.size_push ..
  have hw : base ≤ (w.alloc (.cells cs e)).heap.size := by
    rw [hsz]; omega
  refine step_append_at (w := w.alloc (.cells cs e)) hgd s x t ho base e i z sz bytes ht hi hz hsize hby hzs hsz0 v n xs hs (hown.alloc _) ⟨w.heap.size, 0, none⟩ 1 1 cs.toList hx (by simp [hc8]) ?_ hu hn hbytes hw ?_
  · exact World.news_of_block (heap_alloc_new w _)
  · intro v' w' hown' hgrow _ _
    refine h v' w' hown' (((Below.refl _ _).alloc hbase _).trans (own_belowF (hown.alloc _) hgrow hw)) fun j hj hn => ?_
    rw [hgrow.block j (by rw [hsz]; omega) (fun e => hn e.symm)]
    exact ((Below.refl w.heap.size w).alloc (Nat.le_refl _) (.cells cs e)).block j hj
end Go.Proofs.YtjalfddedikibaaGreatDoor
namespace Go.Proofs.YtjalfddedikibaaGreatDoor
open Go Go.RowKit

theorem wpList_append_nil {P : Program} {w : World} {ops : Array Oper} {rest : List Oper} {o : Oper} {a : Act} {Q : Exit → Act → World → Prop} (hgd : o.guard = none) (s x : Operand) (t : TypeId)
    (ho : o.op = .call { callee := .builtin .append, args := #[s, x], argTypes := #[t, t] })
    (e : TypeId) (i : TypeInfo) (ht : P.underlying t = some (.slice e)) (hi : P.info? e = some i)
    {p : Option Addr} {n c c' : Nat} (hnc : n ≤ c) (hs : a.eval s = .slice p n c) (hx : a.eval x = .slice none 0 c')
    (h : wpList P ops Q rest (a.put o.dst (.slice p n c)) w) : wpList P ops Q (o :: rest) a w := by
  refine wpList_plain hgd fun _ hK => ?_
  have hr := run_append_nothing (P := P) w t t o.type e i ht hi p n c hnc (.slice none 0 c') (Src.ofNil w ht c')
  unfold Oper.wp execOp
  simp only [ho, resolve, invoke, builtin, Sem.run_bind, Sem.run_pure, Result.andThen_ok, List.map_toArray, List.map_cons, List.map_nil, hs, hx, hr]
  exact hK _ _ h
/-- fields appended to an empty slice of the call's own -/
theorem append_fd {w : World} {ops : Array Oper} {rest : List Oper} {o : Oper} {a : Act} {Q : Exit → Act → World → Prop} (hgd : o.guard = none) (s x : Operand)
    (ho : o.op = .call { callee := .builtin .append, args := #[s, x], argTypes := #[22, 22] })
    {base : Nat} {p : Option Addr} {c : Nat} (hs : a.eval s = .slice p 0 c) (hown : w.ownsRow base tF 2 (.slice p 0 c) 0 [])
    {va : Value} {l : List Fd} (hv : FdSl w va l) (hx : a.eval x = va) (hl : l.length ≤ 1048576) (hbase : base ≤ w.heap.size)
    (h : ∀ v' w', w'.ownsRow base tF 2 v' l.length (rowFd l) → Below base w w' → wpList Tryz.prog ops Q rest (a.put o.dst v') w') : wpList Tryz.prog ops Q (o :: rest) a w := by
  obtain ⟨i0, hi, hz0, hz1, hz2⟩ := info_parts infoF
  obtain ⟨q, cap, rfl, hc⟩ := hv
  cases q with
  | none =>
    have hl0 : l = [] := by
      cases l with
      | nil => rfl
      | cons f r =>
        obtain ⟨b, off, hp, _⟩ := hc 0 (by simp)
        cases hp
    subst hl0
    exact wpList_append_nil hgd s x _ ho tF i0 Tryz.underlying22 hi (Nat.zero_le _) hs hx (h _ _ hown (Below.refl _ _))
  | some ad =>
    refine wpList_append_own_at (w := w) hgd s x _ ho base tF i0 _ 2 32 Tryz.underlying22 hi hz0 hz1 hz2 rfl (by decide) _ 0 [] hs hown ad l.length cap (rowFd l) hx (rowFd_len l) ?_ (rowFd_one l) (by unfold maxLen; omega) (by omega) hbase ?_
    · intro j u hu
      have hj : j < l.length * 2 := by
        have := (List.getElem?_eq_some_iff.1 hu).1; rw [rowFd_len] at this; exact this
      obtain ⟨b, off, hp, hlt, h1, h2⟩ := hc (j / 2) (by omega)
      obtain rfl : ad = ⟨b, off, none⟩ := by injection hp
      rw [Addr.add_lit]
      rcases Nat.mod_two_eq_zero_or_one j with hm | hm
      · have e : j = j / 2 * 2 := by omega
        have h3 := (rowFd_get l (j / 2) (by omega)).1
        rw [← e] at h3 h1
        rw [h3] at hu
        exact h1.trans hu
      · have e : j = j / 2 * 2 + 1 := by omega
        have h3 := (rowFd_get l (j / 2) (by omega)).2
        rw [← e] at h3
        rw [Nat.add_assoc, ← e] at h2
        rw [h3] at hu
        exact h2.trans hu
    · intro v' w' h2 h3 _ _
      rw [Nat.zero_add, List.nil_append] at h2
      exact h v' w' h2 (own_belowF hown h3 hbase)
end Go.Proofs.YtjalfddedikibaaGreatDoor
