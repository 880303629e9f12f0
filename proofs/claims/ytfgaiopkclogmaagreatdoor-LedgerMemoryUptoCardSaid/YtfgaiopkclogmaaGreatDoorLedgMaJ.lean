/- Rows that a call has made, each in a block of its own: kept, written over, grown. -/
import Derived.Test.YtfgaiopkclogmaaGreatDoorLedgBaJ
namespace Go.Proofs.YtfgaiopkclogmaaGreatDoor
open Go Go.RowKit

theorem addr_add0 (g j : Nat) : (⟨g, 0, none⟩ : Addr).add j = ⟨g, j, none⟩ := by unfold Addr.add; split <;> simp_all
theorem run_append_keeps {P : Program} (w : World) (t ty : TypeId) (base : Nat) (e : TypeId) (i : TypeInfo) (z : Value) (size bytes : Nat) (ht : P.underlying t = some (.slice e)) (hi : P.info? e = some i) (hz : i.zero = some z)
    (hsize : i.size = size) (hby : i.bytes = bytes) (hzs : z.cells.size = size) (hsz : 0 < size)
    (v : Value) (n : Nat) (xs : List Value) (hown : w.ownsRow base e size v n xs)
    (ad : Addr) (m c : Nat) (news : List Value) (hl : news.length = m * size) (hnews : ∀ j u, news[j]? = some u → w.cell? (ad.add j) = some u) (h1 : ∀ u ∈ news, u.oneCell' = true)
    (hm : 0 < m) (h63 : n + m ≤ maxLen) (hbytes : (n + m) * bytes ≤ 140737488355328) (hbase : base ≤ w.heap.size) :
    ∃ g cap w', (Builtin.append_ #[t, t] ty #[v, .slice (some ad) m c]).run P w = .ok (.slice (some ⟨g, 0, none⟩) (n + m) cap) w' ∧
      w'.ownsRow base e size (.slice (some ⟨g, 0, none⟩) (n + m) cap) (n + m) (xs ++ news) ∧ w.grownBy w' v.ownBlock ∧ (v.ownBlock = some g ∨ g = w.heap.size) ∧ g < w'.heap.size ∧
      (∀ k j u, v.ownBlock = some k → xs[j]? = some u → w'.cell? ⟨k, j, none⟩ = some u) := by
  obtain ⟨g, cap, w', hr, h2, h3, h4, h5⟩ := run_append_lies (P := P) w t ty base e i z size bytes ht hi hz hsize hby hzs hsz v n xs hown ad m c news hl hnews h1 hm h63 hbytes hbase _ rfl
  refine ⟨g, cap, w', hr, h2, h3, h4, h5, ?_⟩
  intro k j u hk hu
  rcases h4 with h4 | h4
  · obtain rfl : k = g := Option.some.inj (hk.symm.trans h4)
    have hj : (xs ++ news)[j]? = some u := by
      rw [List.getElem?_append_left (List.getElem?_eq_some_iff.1 hu).1]; exact hu
    have := h2.cells (g := k) rfl j u hj
    rw [addr_add0] at this
    exact this
  · have hw : ∀ j u, xs[j]? = some u → w.cell? ⟨k, j, none⟩ = some u := by
      rcases hown.2 with ⟨rfl, _⟩ | ⟨g0, cap0, cur, rfl, r⟩
      · cases hk
      · intro j u hu
        obtain rfl : g0 = k := Option.some.inj hk
        have := hown.cells (g := g0) rfl j u hu
        rw [addr_add0] at this
        exact this
    have hkl : k < w.heap.size := (hown.lt k hk).2
    subst hsize
    subst hby
    rcases hown.2 with ⟨rfl, _⟩ | ⟨g0, cap0, cur, rfl, hbg, hg, hnc, hcm, hcs, htake⟩
    · cases hk
    · obtain rfl : g0 = k := Option.some.inj hk
      by_cases hroom : n + m ≤ cap0
      · have hfit : n * i.size + news.length ≤ cur.size := by rw [hl, hcs, ← Nat.add_mul]; exact Nat.mul_le_mul_right _ hroom
        have hr2 := run_append_room (P := P) w t ty e i ht hi g0 n cap0 cur hg ad m c news hl hnews h1 hroom hfit
        rw [hr2] at hr
        injection hr with e1 e2
        injection e1 with e1
        injection e1 with e1
        injection e1 with e1
        omega
      · have holds : ∀ j u, xs[j]? = some u → w.cell? ((⟨g0, 0, none⟩ : Addr).add j) = some u := hown.cells (g := g0) rfl
        have hr2 := run_append_grow (P := P) w t ty e i z ht hi hz ⟨g0, 0, none⟩ n cap0 xs hown.1 holds ad m c news hl hnews (by omega) (by simp only [maxLen] at h63; omega) (growslice_fits (by omega) hbytes)
        rw [hr2] at hr
        injection hr with e1 e2
        rw [← e2]
        rw [← hw j u hu]
        exact World.cell?_of_block (heap_alloc_old w.drew _ hkl)
theorem wpList_append_keeps {P : Program} (w : World) {ops : Array Oper} {rest : List Oper} {o : Oper} {a : Act} {Q : Exit → Act → World → Prop} (hgd : o.guard = none) (s x : Operand) (t : TypeId)
    (ho : o.op = .call { callee := .builtin .append, args := #[s, x], argTypes := #[t, t] })
    (base : Nat) (e : TypeId) (i : TypeInfo) (z : Value) (size bytes : Nat) (ht : P.underlying t = some (.slice e)) (hi : P.info? e = some i) (hz : i.zero = some z)
    (hsize : i.size = size) (hby : i.bytes = bytes) (hzs : z.cells.size = size) (hsz : 0 < size)
    (v : Value) (n : Nat) (xs : List Value) (hs : a.eval s = v) (hown : w.ownsRow base e size v n xs)
    (ad : Addr) (m c : Nat) (news : List Value) (hx : a.eval x = .slice (some ad) m c) (hl : news.length = m * size) (hnews : ∀ j u, news[j]? = some u → w.cell? (ad.add j) = some u) (h1 : ∀ u ∈ news, u.oneCell' = true)
    (hm : 0 < m) (h63 : n + m ≤ maxLen) (hbytes : (n + m) * bytes ≤ 140737488355328) (hbase : base ≤ w.heap.size)
    (h : ∀ g cap w', w'.ownsRow base e size (.slice (some ⟨g, 0, none⟩) (n + m) cap) (n + m) (xs ++ news) → w.grownBy w' v.ownBlock → (v.ownBlock = some g ∨ g = w.heap.size) → g < w'.heap.size →
      (∀ k j u, v.ownBlock = some k → xs[j]? = some u → w'.cell? ⟨k, j, none⟩ = some u) → wpList P ops Q rest (a.put o.dst (.slice (some ⟨g, 0, none⟩) (n + m) cap)) w') : wpList P ops Q (o :: rest) a w := by
  refine wpList_plain hgd fun _ hK => ?_
  obtain ⟨g, cap, w', hr, h2, h3, h4, h5, h6⟩ := run_append_keeps (P := P) w t o.type base e i z size bytes ht hi hz hsize hby hzs hsz v n xs hown ad m c news hl hnews h1 hm h63 hbytes hbase
  unfold Oper.wp execOp
  simp only [ho, resolve, invoke, builtin, Sem.run_bind, Sem.run_pure, Result.andThen_ok, List.map_toArray, List.map_cons, List.map_nil, hs, hx, hr]
  exact hK _ _ (h g cap w' h2 h3 h4 h5 h6)
/-- a row, or another view of one -/
structure Item where
  v : Value
  e : TypeId
  sz : Nat
  n : Nat
  xs : List Value
def Item.ok (w : World) (B : Nat) (o : Item) : Prop := w.ownsRow B o.e o.sz o.v o.n o.xs
/-- 'append(v, x)', v of the call's own, x of some cells laid in a new block: and what v reads stays -/
theorem appendK {P : Program} {w : World} {ops : Array Oper} {rest : List Oper} {o : Oper} {a : Act} {Q : Exit → Act → World → Prop} (hgd : o.guard = none) (s x : Operand) (t : TypeId)
    (ho : o.op = .call { callee := .builtin .append, args := #[s, x], argTypes := #[t, t] })
    (base : Nat) (e : TypeId) (i : TypeInfo) (z : Value) (sz bytes : Nat) (ht : P.underlying t = some (.slice e)) (hi : P.info? e = some i) (hz : i.zero = some z)
    (hsize : i.size = sz) (hby : i.bytes = bytes) (hzs : z.cells.size = sz) (hsz0 : 0 < sz)
    {v : Value} {n : Nat} {xs : List Value} (hown : w.ownsRow base e sz v n xs) (hs : a.eval s = v)
    (cs : Array Value) (hc8 : cs.size = sz) (hu : ∀ u ∈ cs.toList, u.oneCell' = true) {nb : Nat} (hx : a.eval x = .slice (some ⟨nb, 0, none⟩) 1 1) (hnb : nb = w.heap.size)
    (hn : n + 1 ≤ maxLen) (hbytes : (n + 1) * bytes ≤ 140737488355328) (hbase : base ≤ w.heap.size)
    (h : ∀ g cap w', w'.ownsRow base e sz (.slice (some ⟨g, 0, none⟩) (n + 1) cap) (n + 1) (xs ++ cs.toList) → (w.alloc (.cells cs e)).grownBy w' v.ownBlock → (v.ownBlock = some g ∨ g = (w.alloc (.cells cs e)).heap.size) →
      (∀ k j u, v.ownBlock = some k → xs[j]? = some u → w'.cell? ⟨k, j, none⟩ = some u) → Below base w w' → wpList P ops Q rest (a.put o.dst (.slice (some ⟨g, 0, none⟩) (n + 1) cap)) w') :
    wpList P ops Q (o :: rest) a (w.alloc (.cells cs e)) := by
  subst hnb
  have hsz : (w.alloc (.cells cs e)).heap.size = w.heap.size + 1 := Array.size_push ..
  have hw : base ≤ (w.alloc (.cells cs e)).heap.size := by
    rw [hsz]; omega
  refine wpList_append_keeps (w.alloc (.cells cs e)) hgd s x t ho base e i z sz bytes ht hi hz hsize hby hzs hsz0 v n xs hs (hown.alloc _) ⟨w.heap.size, 0, none⟩ 1 1 cs.toList hx (by simp [hc8]) ?_ hu (by decide) hn hbytes hw ?_
  · exact World.news_of_block (heap_alloc_new w _)
  · intro g cap w' hown' hgrow hat _ hkeep
    exact h g cap w' hown' hgrow hat hkeep (((Below.refl _ _).alloc hbase _).trans ((Below.refl _ _).grown hgrow hw (fun k hk => ((hown.alloc (.cells cs e)).lt k hk).1)))
/-- rows of the call's own, each in a block of its own -/
structure Fam {ι : Type} (w : World) (B : Nat) (dom : ι → Prop) (it : ι → Item) : Prop where
  row : ∀ r, dom r → (it r).ok w B
  apart : ∀ r r' k, dom r → dom r' → r ≠ r' → (it r).v.ownBlock = some k → (it r').v.ownBlock ≠ some k
def updI {ι : Type} [DecidableEq ι] (it : ι → Item) (r : ι) (o : Item) : ι → Item := fun q => if q = r then o else it q
theorem updI_same {ι : Type} [DecidableEq ι] (it : ι → Item) (r : ι) (o : Item) : updI it r o r = o := by unfold updI; rw [if_pos rfl]
theorem updI_ne {ι : Type} [DecidableEq ι] (it : ι → Item) {r q : ι} (o : Item) (h : q ≠ r) : updI it r o q = it q := by unfold updI; rw [if_neg h]
theorem Item.ok.next {w w' : World} {B : Nat} {o : Item} (h : o.ok w B) (hb : Below w.heap.size w w') : o.ok w' B := row_kept h (fun g hg => hb.block g (World.ownsRow.lt h g hg).2)
theorem Item.ok.mono {w : World} {B B' : Nat} {o : Item} (h : o.ok w B) (hb : B' ≤ B) : o.ok w B' := by
  refine ⟨h.1, ?_⟩
  rcases h.2 with h | ⟨g, cap, cur, h1, h2, r⟩
  · exact Or.inl h
  · exact Or.inr ⟨g, cap, cur, h1, Nat.le_trans hb h2, r⟩
theorem Fam.next {ι : Type} {w w' : World} {B : Nat} {dom : ι → Prop} {it : ι → Item} (h : Fam w B dom it) (hb : Below w.heap.size w w') : Fam w' B dom it := ⟨fun r hr => (h.row r hr).next hb, h.apart⟩
theorem Fam.push {ι : Type} [DecidableEq ι] {w w1 : World} {B : Nat} {dom dom' : ι → Prop} {it : ι → Item} {o : Item} {m : ι} (h : Fam w B dom it) (hb : Below w.heap.size w w1) (hB : B ≤ w.heap.size) (ho : o.ok w1 w.heap.size) (hd : ∀ r, dom' r → r ≠ m → dom r) : Fam w1 B dom' (updI it m o) := by
  have old : ∀ r k, dom r → (it r).v.ownBlock = some k → k < w.heap.size := fun r k hr hk => (World.ownsRow.lt (h.row r hr) k hk).2
  have new : ∀ k, o.v.ownBlock = some k → w.heap.size ≤ k := fun k hk => (World.ownsRow.lt ho k hk).1
  refine ⟨fun r hr => ?_, fun r r' k hr hr' hne hk he => ?_⟩
  · by_cases hrm : r = m
    · subst hrm; rw [updI_same]; exact ho.mono hB
    · rw [updI_ne _ _ hrm]; exact (h.row r (hd r hr hrm)).next hb
  · by_cases hrm : r = m
    · subst hrm
      have hr2 : r' ≠ r := fun e => hne e.symm
      rw [updI_same] at hk
      rw [updI_ne _ _ hr2] at he
      have := new k hk; have := old r' k (hd r' hr' hr2) he; omega
    · rw [updI_ne _ _ hrm] at hk
      by_cases hrm' : r' = m
      · subst hrm'
        rw [updI_same] at he
        have := new k he; have := old r k (hd r hr hrm) hk; omega
      · rw [updI_ne _ _ hrm'] at he
        exact h.apart r r' k (hd r hr hrm) (hd r' hr' hrm') hne hk he
theorem ok_off {w : World} {B : Nat} {o : Item} (h : o.ok w B) {p : Addr} (hp : ∀ k, o.v.ownBlock = some k → k ≠ p.block) (u : Value) : o.ok (w.setCell p u) B :=
  row_kept h (fun g hg => Below.heap_setCell w p u g (hp g hg))
theorem Fam.put {ι : Type} [DecidableEq ι] {w : World} {B : Nat} {dom : ι → Prop} {it : ι → Item} (h : Fam w B dom it) {r : ι} {g n cap : Nat} (hr : dom r) (hv : (it r).v = .slice (some ⟨g, 0, none⟩) n cap) (j : Nat) (u : Value) :
    Fam (w.setCell ⟨g, j, none⟩ u) B dom (updI it r ⟨(it r).v, (it r).e, (it r).sz, (it r).n, (it r).xs.set j u⟩) := by
  have hg : (it r).v.ownBlock = some g := by rw [hv]; rfl
  refine ⟨fun q hq => ?_, fun q q' k hq hq' hne hk he => ?_⟩
  · by_cases hqr : q = r
    · subst hqr
      rw [updI_same]
      have h1 := h.row q hq
      unfold Item.ok at h1 ⊢
      have hn : n = (it q).n := by
        rcases h1.2 with ⟨h2, _⟩ | ⟨g', c', cur, h2, _⟩
        · rw [hv] at h2; cases h2
        · rw [hv] at h2; injection h2
      rw [hv, hn] at h1
      rw [hn] at hv
      simp only [hv]
      exact (World.ownsRow.stored h1 j u).1
    · rw [updI_ne _ _ hqr]
      refine ok_off (h.row q hq) (p := ⟨g, j, none⟩) (fun k hk => ?_) u
      intro e
      exact h.apart q r k hq hr hqr hk (by rw [hg, e])
  · have e1 : ∀ q, (updI it r ⟨(it r).v, (it r).e, (it r).sz, (it r).n, (it r).xs.set j u⟩ q).v = (it q).v := by
      intro q
      by_cases hqr : q = r
      · subst hqr; rw [updI_same]
      · rw [updI_ne _ _ hqr]
    rw [e1] at hk he
    exact h.apart q q' k hq hq' hne hk he
/-- a slice that reads so, at the beginning of its block -/
def ReadV (w : World) (o : Item) : Prop := (∃ a c, o.v = .slice a o.n c) ∧ (o.xs = [] ∨ ∃ k c, o.v = .slice (some ⟨k, 0, none⟩) o.n c ∧ k < w.heap.size ∧ ∀ j u, o.xs[j]? = some u → w.cell? ⟨k, j, none⟩ = some u)
theorem readV_of {w : World} {B : Nat} {o : Item} (h : o.ok w B) : ReadV w o := by
  rcases h.2 with ⟨hv, h0⟩ | ⟨g, cap, cur, hv, hb, hg, r⟩
  · refine ⟨⟨none, 0, by rw [hv, h0]⟩, Or.inl ?_⟩
    exact List.eq_nil_of_length_eq_zero (by rw [h.1, h0, Nat.zero_mul])
  · refine ⟨⟨_, cap, hv⟩, Or.inr ⟨g, cap, hv, (Array.getElem?_eq_some_iff.1 hg).1, fun j u hu => ?_⟩⟩
    have := World.ownsRow.cells h (g := g) (by rw [hv]; rfl) j u hu
    rw [addr_add0] at this
    exact this
theorem ReadV.next {w w' : World} {o : Item} (h : ReadV w o) (hb : Below w.heap.size w w') : ReadV w' o := by
  refine ⟨h.1, ?_⟩
  rcases h.2 with h | ⟨k, c, hv, hk, hc⟩
  · exact Or.inl h
  · exact Or.inr ⟨k, c, hv, Nat.lt_of_lt_of_le hk hb.size, fun j u hu => by rw [hb.cell (p := ⟨k, j, none⟩) hk]; exact hc j u hu⟩
theorem ReadV.at_ {w : World} {o : Item} (h : ReadV w o) {j : Nat} {u : Value} (hu : o.xs[j]? = some u) : ∃ k c, o.v = .slice (some ⟨k, 0, none⟩) o.n c ∧ w.cell? ⟨k, j, none⟩ = some u := by
  rcases h.2 with h | ⟨k, c, hv, hk, hc⟩
  · rw [h] at hu; simp at hu
  · exact ⟨k, c, hv, hc j u hu⟩
/-- rows that are grown, each read as it was besides -/
structure Gam {ι : Type} (w : World) (B : Nat) (dom : ι → Prop) (it rd : ι → Item) : Prop where
  fam : Fam w B dom it
  read : ∀ r, dom r → ReadV w (rd r)
  pre : ∀ r r' k, dom r → dom r' → (rd r).v.ownBlock = some k → (it r').v.ownBlock = some k → ∃ t, (it r').xs = (rd r).xs ++ t
theorem Gam.start {w : World} {ι : Type} {B : Nat} {dom : ι → Prop} {it : ι → Item} (h : Fam w B dom it) : Gam w B dom it it := by
  refine ⟨h, fun r hr => readV_of (h.row r hr), fun r r' k hr hr' hk hk' => ?_⟩
  by_cases hne : r = r'
  · subst hne; exact ⟨[], by simp⟩
  · exact absurd hk' (h.apart r r' k hr hr' hne hk)
theorem Gam.next {w w' : World} {ι : Type} {B : Nat} {dom : ι → Prop} {it rd : ι → Item} (h : Gam w B dom it rd) (hb : Below w.heap.size w w') : Gam w' B dom it rd := ⟨h.fam.next hb, fun r hr => (h.read r hr).next hb, h.pre⟩
theorem Gam.grow {w w1 w' : World} {ι : Type} [DecidableEq ι] {B : Nat} {dom : ι → Prop} {it rd : ι → Item} {r : ι} {g n cap : Nat} {us : List Value} (h : Gam w B dom it rd) (hb : Below w.heap.size w w1) (hr : dom r)
    (ho : w'.ownsRow B (it r).e (it r).sz (.slice (some ⟨g, 0, none⟩) n cap) n ((it r).xs ++ us)) (hg : w1.grownBy w' (it r).v.ownBlock) (hat : (it r).v.ownBlock = some g ∨ g = w1.heap.size)
    (hk : ∀ k j u, (it r).v.ownBlock = some k → (it r).xs[j]? = some u → w'.cell? ⟨k, j, none⟩ = some u) : Gam w' B dom (updI it r ⟨.slice (some ⟨g, 0, none⟩) n cap, (it r).e, (it r).sz, n, (it r).xs ++ us⟩) rd := by
  have h1 := h.next hb
  have hlt : ∀ q k, dom q → (it q).v.ownBlock = some k → k < w1.heap.size := fun q k hq hk => (World.ownsRow.lt (h1.fam.row q hq) k hk).2
  have hrl : ∀ q k, dom q → (rd q).v.ownBlock = some k → (rd q).xs = [] ∨ k < w1.heap.size := by
    intro q k hq hk
    rcases (h1.read q hq).2 with h | ⟨k', c, hv, hk', _⟩
    · exact Or.inl h
    · rw [hv] at hk; injection hk with hk; exact Or.inr (by rw [← hk]; exact hk')
  refine ⟨⟨fun q hq => ?_, fun q q' k hq hq' hne hk1 he => ?_⟩, fun q hq => ?_, fun q q' k hq hq' hk1 hk2 => ?_⟩
  · by_cases hqr : q = r
    · subst hqr; rw [updI_same]; exact ho
    · rw [updI_ne _ _ hqr]
      refine World.ownsRow.kept (h1.fam.row q hq) hg ?_
      cases hv : (it q).v.ownBlock with
      | none => exact Or.inl rfl
      | some k => exact Or.inr (fun e => h.fam.apart q r k hq hr hqr hv e.symm)
  · by_cases hqr : q = r
    · subst hqr
      rw [updI_same] at hk1
      rw [updI_ne _ _ (Ne.symm hne)] at he
      obtain rfl : g = k := Option.some.inj hk1
      rcases hat with hat | hat
      · exact h.fam.apart q q' g hq hq' hne hat he
      · have := hlt q' g hq' he; omega
    · rw [updI_ne _ _ hqr] at hk1
      by_cases hqr' : q' = r
      · subst hqr'
        rw [updI_same] at he
        obtain rfl : g = k := Option.some.inj he
        rcases hat with hat | hat
        · exact h.fam.apart q q' g hq hq' hne hk1 hat
        · have := hlt q g hq hk1; omega
      · rw [updI_ne _ _ hqr'] at he
        exact h.fam.apart q q' k hq hq' hne hk1 he
  · refine ⟨(h1.read q hq).1, ?_⟩
    rcases (h1.read q hq).2 with h0 | ⟨k, c, hv, hkl, hc⟩
    · exact Or.inl h0
    · refine Or.inr ⟨k, c, hv, Nat.lt_of_lt_of_le hkl hg.size, fun j u hu => ?_⟩
      by_cases hgk : (it r).v.ownBlock = some k
      · obtain ⟨t, ht⟩ := h.pre q r k hq hr (by rw [hv]; rfl) hgk
        refine hk k j u hgk ?_
        rw [ht, List.getElem?_append_left (List.getElem?_eq_some_iff.1 hu).1]
        exact hu
      · exact (World.cell?_of_block (hg.block k hkl (fun e => hgk e.symm))).trans (hc j u hu)
  · by_cases hqr : q' = r
    · subst hqr
      rw [updI_same] at hk2 ⊢
      obtain rfl : g = k := Option.some.inj hk2
      rcases hat with hat | hat
      · obtain ⟨t, ht⟩ := h.pre q q' g hq hr hk1 hat
        exact ⟨t ++ us, by show (it q').xs ++ us = _; rw [ht, List.append_assoc]⟩
      · rcases hrl q g hq hk1 with h0 | h0
        · exact ⟨(it q').xs ++ us, by show (it q').xs ++ us = _; rw [h0]; rfl⟩
        · omega
    · rw [updI_ne _ _ hqr] at hk2 ⊢
      exact h.pre q q' k hq hq' hk1 hk2
end Go.Proofs.YtfgaiopkclogmaaGreatDoor
