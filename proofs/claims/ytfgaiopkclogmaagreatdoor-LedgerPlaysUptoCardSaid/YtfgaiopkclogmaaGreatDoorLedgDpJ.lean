/- Load: a book of lines, or which one is none; the law's comparison at slices that came in. -/
import Derived.Test.YtfgaiopkclogmaaGreatDoorLedgDeJ
import Derived.Test.YtfgaiopkclogmaaGreatDoorMj
import Derived.Test.YtfgaiopkclogmaaGreatDoorLedgLbJ
namespace Go.Proofs.YtfgaiopkclogmaaGreatDoor
open Go Go.RowKit Go.MuLone
set_option maxHeartbeats 8000000

/-- how many lines ahead say an entry -/
def goodN (l : List Tx) : Nat := (l.takeWhile parsesB).length
theorem goodN_le (l : List Tx) : goodN l ≤ l.length := (List.takeWhile_sublist _).length_le
theorem goodN_yes {l : List Tx} {k : Nat} (h : k < goodN l) (hk : k < l.length) : parsesB l[k] = true := by
  induction l generalizing k with
  | nil => simp at hk
  | cons x r ih =>
    unfold goodN at h ih
    rw [List.takeWhile_cons] at h
    by_cases hx : parsesB x = true
    · rw [if_pos hx] at h
      cases k with
      | zero => exact hx
      | succ k => exact ih (by simpa using h) (by simpa using hk)
    · rw [if_neg hx] at h; simp at h
theorem goodN_no {l : List Tx} (hk : goodN l < l.length) : parsesB l[goodN l] = false := by
  have key : ∀ (l : List Tx) (n : Nat) (hn : n = goodN l) (hk : n < l.length), parsesB l[n] = false := by
    intro l
    induction l with
    | nil => intro n _ hk; simp at hk
    | cons x r ih =>
      intro n hn hk
      unfold goodN at hn ih
      rw [List.takeWhile_cons] at hn
      by_cases hx : parsesB x = true
      · rw [if_pos hx] at hn
        cases n with
        | zero => simp at hn
        | succ m => exact ih m (by simpa using hn) (by simpa using hk)
      · rw [if_neg hx] at hn
        simp at hn
        subst hn
        simpa using hx
  exact key l _ rfl hk
theorem parses_pos {S : List UInt8} (h : parsesB S = true) : 1 ≤ S.length := by
  have hf := parses_facts h
  have h1 := (parse_once S hf.1 hf.2).1
  have h2 : 1 ≤ (printL (parsedE S)).length := by
    unfold printL
    simp only [List.length_append]
    simp
    omega
  rw [h1] at h2
  exact h2
theorem sumT_good (l : List Tx) : goodN l ≤ sumT l := by
  induction l with
  | nil => simp [goodN]
  | cons x r ih =>
    have hs : sumT (x :: r) = x.length + sumT r := by simp [sumT]
    rw [hs]
    unfold goodN at ih ⊢
    rw [List.takeWhile_cons]
    by_cases hx : parsesB x = true
    · rw [if_pos hx, List.length_cons]
      have := parses_pos hx
      omega
    · rw [if_neg hx]; simp
theorem len_sumT {l : List Tx} {k : Nat} (h : k < l.length) : l[k].length ≤ sumT l := by
  induction l generalizing k with
  | nil => simp at h
  | cons x r ih =>
    have hs : sumT (x :: r) = x.length + sumT r := by simp [sumT]
    cases k with
    | zero => simp only [List.getElem_cons_zero]; omega
    | succ k => have := ih (k := k) (by simpa using h); simp only [List.getElem_cons_succ]; omega
def entsL (l : List Tx) : List En := l.map parsedE
theorem ents_take (l : List Tx) (k : Nat) (h : k < l.length) : entsL (l.take (k + 1)) = entsL (l.take k) ++ [parsedE l[k]] := by
  unfold entsL
  rw [List.take_succ_eq_append_getElem h, List.map_append]; rfl
theorem parsed_ok {S : List UInt8} (h : parsesB S = true) : okE (parsedE S) := by
  have hf := parses_facts h
  exact ⟨(parse_once S hf.1 hf.2).2, parse_ints S hf.1⟩
theorem ents_ok {l : List Tx} {k : Nat} (h : k ≤ goodN l) : ∀ e ∈ entsL (l.take k), okE e := by
  intro e he
  obtain ⟨S, hS, rfl⟩ := List.mem_map.1 he
  obtain ⟨j, hj, rfl⟩ := List.getElem_of_mem hS
  rw [List.getElem_take]
  rw [List.length_take] at hj
  exact parsed_ok (goodN_yes (by omega) (by omega))
/-- where Load stands: its book, behind the start -/
structure LSt (w wr : World) (b : Nat) (vb : Value) (l : List En) : Prop where
  bok : Bok wr b vb l
  ge : ∀ i, bokS b vb i → w.heap.size ≤ i
  below : Below w.heap.size w wr
theorem LSt.next {w W W' : World} {b : Nat} {vb : Value} {l : List En} (h : LSt w W b vb l) (hb : Below W.heap.size W W') : LSt w W' b vb l :=
  ⟨h.bok.next hb, h.ge, h.below.trans (hb.mono h.below.size)⟩
theorem LSt.add {w W W' : World} {b : Nat} {vb : Value} {l : List En} {e : En} (h : LSt w W b vb l) (hd : AddedA W b vb l e W') : ∃ vb', LSt w W' b vb' (addL l e) := by
  obtain ⟨va', hbk, hown, hk⟩ := hd
  refine ⟨va', hbk, ?_, h.below.trans (hk.below (fun i hi hc => by have := h.ge i hc; omega) h.below.size)⟩
  have hws := h.below.size
  rintro i (hi | hi)
  · exact h.ge i (Or.inl hi)
  · rcases hown with h1 | ⟨k, h1, h2⟩
    · rw [h1] at hi; exact h.ge i (Or.inr hi)
    · rw [h1] at hi; injection hi with hi; omega

set_option maxRecDepth 100000 in
theorem load_gen (v : Value) (l : List Tx) (w : World) (hE : EnvT w) (hv : StSl w v l) (hs : ∀ (j : Nat) (h : j < l.length), l[j].length ≤ 1048576) (hg : goodN l ≤ 524288) (hn1 : l.length ≤ 1073741824) :
    Calls Tryz.prog 17 #[v] w fun e w' => ((goodN l = l.length ∧ ∃ b vb, e = .returned (.tuple #[.pointer (some ⟨b, 0, none⟩), .int .i64 0, .int .i64 0]) ∧ LSt w w' b vb (entsL l)) ∨ (goodN l < l.length ∧ e = .returned (.tuple #[.pointer none, .int .i64 (goodN l : Nat), .int .i64 280]))) ∧ Below w.heap.size w w' := by
  obtain ⟨p1, cap1, rfl, hc1⟩ := hv
  have HE := Lib.hid hE
  have HC := Lib.hid hc1
  have HS := Lib.hid hs
  have HG := Lib.hid hg
  have H5 := Lib.hid hE.n
  clear hE hc1 hs hg
  go_enter Tryz.func17, Tryz.ntmps17
  go_wp2_with fail
  refine (newBook_any w H5.out).mono ?_; rintro x w1 ⟨rfl, hA, b1⟩
  have L1 : Hid (LSt w w1 w.heap.size (.slice none 0 0) []) := ⟨hA, (fun i hi => by
    rcases hi with rfl | hi
    · exact Nat.le_refl _
    · cases hi), b1⟩
  obtain ⟨b, hb⟩ := name_it w.heap.size
  rw [hb.out] at L1
  rw [show (Value.pointer (some ⟨w.heap.size, 0, none⟩)) = Value.pointer (some ⟨b, 0, none⟩) by rw [hb.out]]
  clear hA b1 hb
  go_wp2_with fail
  go_loopw [14] (fun i wr => ∃ (k : Nat) (vb : Value), k ≤ l.length ∧ k ≤ goodN l ∧ i = .int .i64 k ∧ Hid (LSt w wr b vb (entsL (l.take k)))) (fun i _ => l.length - (intOf i).toNat)
  case atStart => exact ⟨0, _, Nat.zero_le _, Nat.zero_le _, rfl, L1⟩
  clear L1
  case round =>
    obtain ⟨k, vb, hk, hkg, rfl, hL⟩ := hrel
    obtain ⟨wq, hwq⟩ : ∃ wq, wq = wr := ⟨wr, rfl⟩
    subst hwq
    by_cases hlt : k < l.length
    · have q0 : (0 : Int) ≤ (k : Int) := by omega
      have q1 : (k : Int) < (l.length : Int) := by omega
      obtain ⟨b1, o1, rfl, hlt1, hcell⟩ := HC.out k hlt
      have c0 : wq.cell? ⟨b1, o1 + k, none⟩ = some (.string (bs l[k])) := (hL.out.below.cell (p := ⟨b1, o1 + k, none⟩) hlt1).trans hcell
      have hne : ((k : Int) == 1000000) = false := by have := HG.out; simp; omega
      have hne2 : ¬ (k : Int) = 1000000 := by have := HG.out; omega
      have PA := Lib.hid (parse_any (bs l[k]) wq (HE.out.next hL.out.below) (by rw [size_bs]; have := HS.out k hlt; omega))
      rw [L_bs] at PA
      have ht := ents_take l k hlt
      clear hcell
      cases hp : parsesB l[k] with
      | true =>
        rw [parV_yes hp] at PA
        have hkg' : k + 1 ≤ goodN l := by
          rcases Nat.lt_or_ge k (goodN l) with h | h
          · exact h
          · have he : k = goodN l := by omega
            subst he
            rw [goodN_no hlt] at hp; cases hp
        have OKP := Lib.hid (parsed_ok hp)
        obtain ⟨S, hS⟩ := name_it l[k]
        rw [hS.out] at PA c0 ht OKP
        obtain ⟨e, he⟩ := name_it (parsedE S)
        rw [he.out] at PA ht OKP
        have HT := Lib.hid ht
        clear hS he hp ht
        unfold encE at PA
        go_wp2_with fail
        all_goals (try (exfalso; omega))
        refine PA.out.mono ?_; rintro x w2 ⟨rfl, b2⟩
        have L2 := Lib.hid (hL.out.next b2)
        clear b2 PA c0
        go_wp2_with fail
        all_goals (try (exfalso; omega))
        have L3 := Lib.hid (L2.out.next ((Below.refl _ _).alloc (Nat.le_refl _) (.cells #[.string (bs e.name), .int .i64 e.conn, .int .i64 e.numb, .string (bs e.meth), .string (bs e.tgt), .int .i64 e.stat, .int .i64 e.byts, .int .i64 e.tick] tE)))
        have HLN : Hid ((entsL (l.take k)).length < 1000000) := by have := HG.out; unfold Hid entsL; rw [List.length_map, List.length_take]; omega
        have ADD := Lib.hid (add_any b vb _ e _ (HE.out.next L3.out.below) L3.out.bok HLN.out OKP.out.n1 OKP.out.n2 OKP.out.n3)
        unfold visE at ADD
        refine ADD.out.mono ?_; rintro x w4 ⟨rfl, hadd⟩
        obtain ⟨vb', L4⟩ := L3.out.add hadd
        have hae : addL (entsL (l.take k)) e = entsL (l.take (k + 1)) := by unfold addL; rw [if_pos OKP.out.right, HT.out]
        rw [hae] at L4
        have L5 := Lib.hid L4
        clear hadd L4 ADD L2 L3 hae
        go_wp2_with fail
        go_roundw
        case rel => exact ⟨k + 1, vb', by omega, by omega, by go_num, L5⟩
        case measure => simp [intOf] <;> omega
      | false =>
        rw [parV_no hp] at PA
        have hkg' : k = goodN l := by
          rcases Nat.lt_or_ge k (goodN l) with h | h
          · rw [goodN_yes h hlt] at hp; cases hp
          · omega
        have HKG := Lib.hid hkg'
        obtain ⟨S, hS⟩ := name_it l[k]
        rw [hS.out] at PA c0
        clear hS hp ht hkg'
        obtain ⟨pe, hpe⟩ := name_it ((parseEnd S).1)
        rw [hpe.out] at PA
        clear hpe
        unfold noS at PA
        go_wp2_with fail
        all_goals (try (exfalso; omega))
        refine PA.out.mono ?_; rintro x w2 ⟨rfl, b2⟩
        have L2 := Lib.hid (hL.out.next b2)
        clear b2 PA c0
        go_wp2_with fail
        all_goals (try (exfalso; omega))
        exact bodyPost_ret (v := .tuple #[.pointer none, .int .i64 (k : Nat), .int .i64 280]) (by simp [results, Tryz.results17, go_sem]) rfl ⟨Or.inr ⟨by have := HKG.out; omega, by rw [← HKG.out]⟩, L2.out.below.alloc L2.out.below.size _⟩
    · obtain rfl : k = l.length := by omega
      rw [List.take_length] at hL
      have hgl := goodN_le l
      go_wp2_with fail
      all_goals (try (exfalso; omega))
      exact bodyPost_ret (v := .tuple #[.pointer (some ⟨b, 0, none⟩), .int .i64 0, .int .i64 0]) (by simp [results, Tryz.results17, go_sem]) rfl ⟨Or.inl ⟨by omega, b, vb, rfl, hL.out⟩, hL.out.below⟩
theorem load_any (v : Value) (l : List Tx) (w : World) (hE : EnvT w) (hv : StSl w v l) (hl : sumT l + l.length ≤ 1048576) :
    Calls Tryz.prog 17 #[v] w fun e w' => ((goodN l = l.length ∧ ∃ b vb, e = .returned (.tuple #[.pointer (some ⟨b, 0, none⟩), .int .i64 0, .int .i64 0]) ∧ LSt w w' b vb (entsL l)) ∨ (goodN l < l.length ∧ e = .returned (.tuple #[.pointer none, .int .i64 (goodN l : Nat), .int .i64 280]))) ∧ Below w.heap.size w w' :=
  load_gen v l w hE hv (fun j h => by have := len_sumT h; omega) (by have h1 := sumT_good l; have h2 := goodN_le l; omega) (by omega)
theorem StSl.of {w : World} {B : Nat} {v : Value} {l : List Tx} (h : w.ownsRow B 9 1 v l.length (strsT l)) : StSl w v l := by
  obtain ⟨p, cap, rfl⟩ := row_slice h
  refine ⟨p, cap, rfl, fun j hj => ?_⟩
  obtain ⟨g, rfl⟩ : ∃ g, p = some ⟨g, 0, none⟩ := by
    rcases h.2 with ⟨_, h0⟩ | ⟨g, cap', cur, h', _⟩
    · omega
    · injection h' with h' _ _; exact ⟨g, h'⟩
  exact ⟨g, 0, rfl, (World.ownsRow.lt h g rfl).2, by rw [Nat.zero_add]; exact (h.cellAt j (by omega)).trans (strsT_get l j hj)⟩
set_option maxRecDepth 100000 in
theorem lsame2_any (va vb : Value) (xs : List Tx) (w : World) (ha : StSl w va xs) (hb : StSl w vb xs) (na : xs.length ≤ 1073741824) :
    Calls Tryz.prog 18 #[va, vb] w fun e w' => e = .returned (.bool true) ∧ Below w.heap.size w w' := by
  obtain ⟨sa, ca, rfl, hca⟩ := ha
  obtain ⟨sb, cb, rfl, hcb⟩ := hb
  have HA := Lib.hid hca
  have HB := Lib.hid hcb
  clear hca hcb
  have hnl : ((xs.length : Int) == (xs.length : Int)) = true := by simp
  go_enter Tryz.func18, Tryz.ntmps18
  go_wp2_with fail
  all_goals (try (exfalso; omega))
  go_loopw [5] (fun i wr => ∃ k : Nat, k ≤ xs.length ∧ i = .int .i64 k ∧ Hid (Below w.heap.size w wr)) (fun i _ => xs.length - (intOf i).toNat)
  case atStart => exact ⟨0, Nat.zero_le _, rfl, Below.refl _ _⟩
  case round =>
    obtain ⟨k, hk, rfl, hbr⟩ := hrel
    by_cases hlt : k < xs.length
    · have q0 : (0 : Int) ≤ (k : Int) := by omega
      have q1 : (k : Int) < (xs.length : Int) := by omega
      obtain ⟨ga, oa, rfl, la, ka⟩ := HA.out k hlt
      obtain ⟨gb, ob, rfl, lb, kb⟩ := HB.out k hlt
      have d1 : wr.cell? ⟨ga, oa + k, none⟩ = some (.string (bs xs[k])) := (hbr.out.cell (p := ⟨ga, oa + k, none⟩) la).trans ka
      have d2 : wr.cell? ⟨gb, ob + k, none⟩ = some (.string (bs xs[k])) := (hbr.out.cell (p := ⟨gb, ob + k, none⟩) lb).trans kb
      clear ka kb
      obtain ⟨x, hx⟩ := name_it (bs xs[k])
      rw [hx.out] at d1 d2
      clear hx
      have hxx : (x.toList == x.toList) = true := by simp
      go_wp2_with fail
      go_quiet (fail)
      go_wp2_with fail
      go_roundw
      case rel => exact ⟨k + 1, by omega, by go_num, below_drewN hbr.out _⟩
      case measure => simp [intOf]; omega
    · obtain rfl : k = xs.length := by omega
      go_wp2_with fail
      all_goals (try (exfalso; omega))
      go_ret
      exact ⟨rfl, hbr.out⟩
/-- 'append(v, x)', x a struct of eight cells, in a region whose order is fixed -/
theorem append8 {P : Program} {w : World} {ops : Array Oper} {rest : List Oper} {o : Oper} {a : Act} {Q : Exit → Act → World → Prop} (hgd : o.guard = none) (s x : Operand) (t : TypeId)
    (ho : o.op = .call { callee := .builtin .append, args := #[s, x], argTypes := #[t, t] })
    (base : Nat) (e : TypeId) (i : TypeInfo) (z : Value) (bytes : Nat) (ht : P.underlying t = some (.slice e)) (hi : P.info? e = some i) (hz : i.zero = some z)
    (hsize : i.size = 8) (hby : i.bytes = bytes) (hzs : z.cells.size = 8)
    {v : Value} {n : Nat} {xs : List Value} (hown : w.ownsRow base e 8 v n xs) (hs : a.eval s = v)
    (cs : Array Value) (hc8 : cs.size = 8) (hu : ∀ u ∈ cs.toList, u.oneCell' = true) {nb : Nat} (hx : a.eval x = .slice (some ⟨nb, 0, none⟩) 1 1) (hnb : nb = w.heap.size)
    (hn : n + 1 ≤ maxLen) (hbytes : (n + 1) * bytes ≤ 140737488355328) (hbase : base ≤ w.heap.size)
    (h : ∀ g cap w', w'.ownsRow base e 8 (.slice (some ⟨g, 0, none⟩) (n + 1) cap) (n + 1) (xs ++ cs.toList) → Below base w w' → (v.ownBlock = some g ∨ w.heap.size ≤ g) → Keeps (fun j => v.ownBlock = some j) w w' → wpList P ops Q rest (a.put o.dst (.slice (some ⟨g, 0, none⟩) (n + 1) cap)) w') :
    wpList P ops Q (o :: rest) a (w.alloc (.cells cs e)) := by
  subst hnb
  have hsz : (w.alloc (.cells cs e)).heap.size = w.heap.size + 1 := Array.size_push ..
  have hw : base ≤ (w.alloc (.cells cs e)).heap.size := by
    rw [hsz]; omega
  refine wpList_append_own_at (w := w.alloc (.cells cs e)) hgd s x t ho base e i z 8 bytes ht hi hz hsize hby hzs (by decide) v n xs hs (hown.alloc _) ⟨w.heap.size, 0, none⟩ 1 1 cs.toList hx (by simp [hc8]) ?_ hu hn hbytes hw ?_
  · exact World.news_of_block (heap_alloc_new w _)
  · intro v' w' hown' hgrow _ hb
    rcases hown'.2 with ⟨_, h0⟩ | ⟨g, cap, cur, rfl, hg, _⟩
    · omega
    · refine h g cap w' hown' (((Below.refl _ _).alloc hbase _).trans (own_belowL (hown.alloc _) hgrow hw)) ?_ ?_
      · rcases hb with hb | hb
        · exact Or.inl hb.symm
        · right
          have : g = (w.alloc (.cells cs e)).heap.size := by injection hb
          rw [this, hsz]; omega
      · have k0 : Keeps (fun j => v.ownBlock = some j) w (w.alloc (.cells cs e)) := Keeps.of ((Below.refl w.heap.size w).alloc (Nat.le_refl _) _) (Nat.le_refl _)
        exact k0.trans ⟨hgrow.os, hgrow.tape, hgrow.output, hgrow.size, fun i hi hn => hgrow.block i hi (fun e => hn e.symm)⟩
end Go.Proofs.YtfgaiopkclogmaaGreatDoor
