/- The document's Top: the paths that most entries have. -/
import Derived.Test.YtfgaiopkclogmaaGreatDoorLedgTcJ
import Derived.Test.YtfgaiopkclogmaaGreatDoorLedgCjJ
import Derived.Test.YtfgaiopkclogmaaGreatDoorMh
import Derived.Deep.RegionLaw
import Derived.BigQuiet
import Derived.Maps.RangeWalk
namespace Go.Proofs.YtfgaiopkclogmaaGreatDoor
open Go Go.RowKit Go.MuLone
set_option maxHeartbeats 8000000

/-- 'append(v, x)', x a struct of some cells, in a region whose order is fixed: what it gives, what stays -/
theorem appendZ {P : Program} {w : World} {ops : Array Oper} {rest : List Oper} {o : Oper} {a : Act} {Q : Exit → Act → World → Prop} (hgd : o.guard = none) (s x : Operand) (t : TypeId)
    (ho : o.op = .call { callee := .builtin .append, args := #[s, x], argTypes := #[t, t] })
    (base : Nat) (e : TypeId) (i : TypeInfo) (z : Value) (sz bytes : Nat) (ht : P.underlying t = some (.slice e)) (hi : P.info? e = some i) (hz : i.zero = some z)
    (hsize : i.size = sz) (hby : i.bytes = bytes) (hzs : z.cells.size = sz) (hsz0 : 0 < sz)
    {v : Value} {n : Nat} {xs : List Value} (hown : w.ownsRow base e sz v n xs) (hs : a.eval s = v)
    (cs : Array Value) (hc8 : cs.size = sz) (hu : ∀ u ∈ cs.toList, u.oneCell' = true) {nb : Nat} (hx : a.eval x = .slice (some ⟨nb, 0, none⟩) 1 1) (hnb : nb = w.heap.size)
    (hn : n + 1 ≤ maxLen) (hbytes : (n + 1) * bytes ≤ 140737488355328) (hbase : base ≤ w.heap.size)
    (h : ∀ g cap w', w'.ownsRow base e sz (.slice (some ⟨g, 0, none⟩) (n + 1) cap) (n + 1) (xs ++ cs.toList) → Below base w w' → (v.ownBlock = some g ∨ w.heap.size ≤ g) → Keeps (fun j => v.ownBlock = some j) w w' → wpList P ops Q rest (a.put o.dst (.slice (some ⟨g, 0, none⟩) (n + 1) cap)) w') :
    wpList P ops Q (o :: rest) a (w.alloc (.cells cs e)) := by
  subst hnb
  have hsz : (w.alloc (.cells cs e)).heap.size = w.heap.size + 1 := Array.size_push ..
  have hw : base ≤ (w.alloc (.cells cs e)).heap.size := by
    rw [hsz]; omega
  refine wpList_append_own_at (w := w.alloc (.cells cs e)) hgd s x t ho base e i z sz bytes ht hi hz hsize hby hzs hsz0 v n xs hs (hown.alloc _) ⟨w.heap.size, 0, none⟩ 1 1 cs.toList hx (by simp [hc8]) ?_ hu hn hbytes hw ?_
  · exact World.news_of_block (heap_alloc_new w _)
  · intro v' w' hown' hgrow _ hb
    rcases hown'.2 with ⟨_, h0⟩ | ⟨g, cap, cur, rfl, hg, _⟩
    · omega
    · refine h g cap w' hown' (((Below.refl _ _).alloc hbase _).trans (own_belowL (hown.alloc _) hgrow hw)) ?_ ?_
      · rcases hb with hb | hb
        · exact Or.inl hb.symm
        · right
          have : g = (w.alloc (.cells cs e)).heap.size := by injection hb
          rw [this, hsz]; omega
      · have k0 : Keeps (fun j => v.ownBlock = some j) w (w.alloc (.cells cs e)) := Keeps.of ((Below.refl w.heap.size w).alloc (Nat.le_refl _) _) (Nat.le_refl _)
        exact k0.trans ⟨hgrow.os, hgrow.tape, hgrow.output, hgrow.size, fun i hi hn => hgrow.block i hi (fun e => hn e.symm)⟩
/-- where the document's Top stands: what is left, what has been taken -/
structure RTp (w W : World) (S left : List (Tx × Int)) (j : Nat) (lv ov : Value) : Prop where
  lrow : W.ownsRow w.heap.size tTal 2 lv left.length (rowT left)
  orow : W.ownsRow w.heap.size tTal 2 ov j (rowT (S.take j))
  ne : ∀ g, lv.ownBlock = some g → ov.ownBlock ≠ some g
  perm : left.Perm (S.drop j)
  jle : j ≤ S.length
  below : Below w.heap.size w W
theorem RTp.llen {w W : World} {S left : List (Tx × Int)} {j : Nat} {lv ov : Value} (h : RTp w W S left j lv ov) : left.length = S.length - j := by rw [h.perm.length_eq, List.length_drop]
theorem RTp.next {w W W' : World} {S left : List (Tx × Int)} {j : Nat} {lv ov : Value} (h : RTp w W S left j lv ov) (hb : Below W.heap.size W W') : RTp w W' S left j lv ov :=
  ⟨row_kept h.lrow (fun g hg => hb.block g (World.ownsRow.lt h.lrow g hg).2), row_kept h.orow (fun g hg => hb.block g (World.ownsRow.lt h.orow g hg).2), h.ne, h.perm, h.jle, h.below.trans (hb.mono h.below.size)⟩
theorem RTp.cell {w W : World} {S left : List (Tx × Int)} {j gl cl : Nat} {ov : Value} (h : RTp w W S left j (.slice (some ⟨gl, 0, none⟩) left.length cl) ov) (i : Nat) (hi : i < left.length) : W.cell? ⟨gl, i * 2, none⟩ = some (.string (bs left[i].1)) ∧ W.cell? ⟨gl, i * 2 + 1, none⟩ = some (.int .i64 left[i].2) :=
  ⟨(h.lrow.cellAt (i * 2) (by omega)).trans (rowT_get left i hi).1, (h.lrow.cellAt (i * 2 + 1) (by omega)).trans (rowT_get left i hi).2⟩
/-- what came out is what the list says -/
theorem RTp.done {w W : World} {S left : List (Tx × Int)} {j : Nat} {lv ov : Value} {n : Int} (h : RTp w W S left j lv ov) (hj : j ≤ n.toNat) (he : left.length = 0 ∨ ¬ ((j : Int) < n)) : S.take j = S.take n.toNat := by
  have h1 := h.llen
  have h2 := h.jle
  rcases he with he | he
  · have : j = S.length := by omega
    rw [this, List.take_length, List.take_of_length_le (by omega)]
  · have : j = n.toNat := by omega
    rw [this]
theorem take_push {S left : List (Tx × Int)} {j bi : Nat} (hk : S[j]? = some left[bi]!) : S.take (j + 1) = S.take j ++ [left[bi]!] := by
  rw [List.take_add_one, hk]; rfl
/-- the best of the first so many -/
def BestAt (left : List (Tx × Int)) (bi k : Nat) : Prop := ∃ hb : bi < left.length, ∀ x ∈ left.take k, befT x left[bi] = false
theorem best_same {left : List (Tx × Int)} {bi k : Nat} (hk : k < left.length) (hb : bi < left.length) (h : ∀ x ∈ left.take k, befT x left[bi] = false) (hn : befT left[k] left[bi] = false) : ∀ x ∈ left.take (k + 1), befT x left[bi] = false := by
  intro x hx
  rw [List.take_succ_eq_append_getElem hk, List.mem_append, List.mem_singleton] at hx
  rcases hx with hx | rfl
  · exact h x hx
  · exact hn
theorem best_new {left : List (Tx × Int)} {bi k : Nat} (hk : k < left.length) (hb : bi < left.length) (h : ∀ x ∈ left.take k, befT x left[bi] = false) (hn : befT left[k] left[bi] = true) : ∀ x ∈ left.take (k + 1), befT x left[k] = false := by
  intro x hx
  rw [List.take_succ_eq_append_getElem hk, List.mem_append, List.mem_singleton] at hx
  rcases hx with hx | rfl
  · rw [Bool.eq_false_iff]
    intro h2
    have := befT_trans h2 hn
    rw [h x hx] at this
    cases this
  · exact befT_irrefl _
theorem two_appends {w6 W1 w7 w9 : World} {v7 v9 : Value} (z1 : W1.heap.size = w6.heap.size + 1) (k1 : Below w6.heap.size w6 W1) (hg7 : W1.grownBy w7 (some w6.heap.size)) (hat7 : v7.ownBlock = some w6.heap.size ∨ v7.ownBlock = some W1.heap.size) (hg9 : w7.grownBy w9 v7.ownBlock) (hat9 : v9.ownBlock = v7.ownBlock ∨ v9.ownBlock = some w7.heap.size) :
    (∀ g, v9.ownBlock = some g → w6.heap.size ≤ g) ∧ Below w6.heap.size w6 w9 := by
  have h7 : ∀ g, v7.ownBlock = some g → w6.heap.size ≤ g := by
    intro g hg
    rcases hat7 with h | h <;> rw [h] at hg <;> injection hg with hg <;> omega
  have s7 := hg7.size
  refine ⟨fun g hg => ?_, ?_⟩
  · rcases hat9 with h | h
    · exact h7 g (h ▸ hg)
    · rw [h] at hg; injection hg with hg; omega
  · have b7 : Below w6.heap.size w6 w7 := k1.trans ⟨hg7.os, hg7.tape, hg7.output, hg7.size, fun i hi => hg7.block i (by omega) (by intro e; injection e with e; omega)⟩
    exact b7.trans ⟨hg9.os, hg9.tape, hg9.output, hg9.size, fun i hi => hg9.block i (by omega) (fun e => by have := h7 i e.symm; omega)⟩
def lenV : Value → Nat
  | .slice _ n _ => n
  | _ => 0

set_option maxRecDepth 100000 in
theorem rtop_any (va : Value) (l : List En) (n : Int) (B : Nat) (w : World) (hA : w.ownsRow B tR 8 va l.length (rowE l)) (hok : ∀ e ∈ l, okE e) (hl : l.length ≤ 1000000) :
    Calls Tryz.prog 23 #[va, .int .i64 n] w fun e w' => (∃ v2, e = .returned v2 ∧ w'.ownsRow w.heap.size tTal 2 v2 (topL l n).length (rowT (topL l n))) ∧ Below w.heap.size w w' := by
  obtain ⟨i0, hi, hz0, hz1, hz2⟩ := info_parts infoStr
  obtain ⟨j0, ji, jz0, jz1, jz2⟩ := info_parts infoTal
  have ROW := Lib.hid hA
  have HOK := Lib.hid hok
  have hl2 : l.length ≤ 1073741824 := by omega
  have HFIT := Lib.hid hl
  clear hA hok hl
  obtain ⟨sp, cap, hv2⟩ := row_slice ROW.out
  subst hv2
  go_enter Tryz.func23, Tryz.ntmps23
  go_wp2_with fail
  go_loopw [5, 6] (fun out i wr => ∃ k : Nat, k ≤ l.length ∧ i = .int .i64 k ∧ Hid (wr.ownsRow w.heap.size 9 1 out k (strsT (pathsL (l.take k)))) ∧ Hid (Below w.heap.size w wr)) (fun _ i _ => l.length - (intOf i).toNat)
  case atStart => exact ⟨0, Nat.zero_le _, rfl, World.ownsRow_lit w #[] 0 (Nat.le_refl _) (by decide) rfl, (Below.refl _ _).alloc (Nat.le_refl _) _⟩
  case round =>
    obtain ⟨k, hk, rfl, hO, hbr⟩ := hrel
    obtain ⟨wq, hwq⟩ : ∃ wq, wq = wr := ⟨wr, rfl⟩
    subst hwq
    by_cases hlt : k < l.length
    · obtain ⟨so, co, hout⟩ := row_slice hO.out
      subst hout
      have q0 : (0 : Int) ≤ (k : Int) := by omega
      have q1 : (k : Int) < (l.length : Int) := by omega
      obtain ⟨g, rfl⟩ : ∃ g, sp = some ⟨g, 0, none⟩ := by
        rcases ROW.out.2 with ⟨_, h0⟩ | ⟨g, cap', cur, h, _⟩
        · omega
        · injection h with h _ _; exact ⟨g, h⟩
      have HG := Lib.hid (World.ownsRow.lt ROW.out g rfl).2
      have HX := Lib.hid (HOK.out l[k] (List.getElem_mem hlt))
      have ck : ∀ i, i < 8 → wq.cell? ⟨g, k * 8 + i, none⟩ = (cellsE l[k])[i]? := fun i hi => (hbr.out.cell (p := ⟨g, k * 8 + i, none⟩) HG.out).trans ((ROW.out.cellAt (k * 8 + i) (by omega)).trans (rowE_get l k i hlt hi))
      have ht : Hid (strsT (pathsL (l.take (k + 1))) = strsT (pathsL (l.take k)) ++ [.string (bs (pathL l[k].tgt))]) := by unfold pathsL strsT Hid; rw [List.take_succ_eq_append_getElem hlt, List.map_append, List.map_append]; rfl
      obtain ⟨e, he⟩ := name_it l[k]
      rw [he.out] at HX ck ht
      clear he
      have c4 : wq.cell? ⟨g, k * 8 + 4, none⟩ = some (.string (bs e.tgt)) := ck 4 (by decide)
      clear ck
      have RP := Lib.hid (fun wx => rpath_any (bs e.tgt) wx (by rw [size_bs]; have := HX.out.n3; omega))
      rw [L_bs] at RP
      obtain ⟨pp, hpp⟩ := name_it (bs (pathL e.tgt))
      rw [hpp.out] at RP ht
      clear hpp
      go_wp2_with fail
      all_goals (try (exfalso; omega))
      refine (RP.out _).mono ?_; rintro x w5 ⟨rfl, rfl⟩
      clear c4 RP
      go_wp2_with (at_builtin; refine append1 rfl _ _ 43 rfl w.heap.size 9 i0 (.string ⟨#[]⟩) 16 Tryz.underlying43 hi hz0 hz1 hz2 rfl hO.out rfl (.string pp) rfl rfl ?_ ?_ ?_ ?_)
      · have := HFIT.out; unfold maxLen; omega
      · have := HFIT.out; omega
      · exact hbr.out.size
      intro g6 cap6 w6 hg6 hown6 hb6
      have O6 : Hid (w6.ownsRow w.heap.size 9 1 (.slice (some ⟨g6, 0, none⟩) (k + 1) cap6) (k + 1) (strsT (pathsL (l.take (k + 1))))) := by unfold Hid; rw [ht.out]; exact hown6
      have d6 := Lib.hid (hbr.out.trans hb6)
      clear hown6 hb6
      go_wp2_with fail
      go_roundw
      case rel => exact ⟨k + 1, by omega, by go_num, O6, d6⟩
      case measure => simp [intOf] <;> omega
    · obtain rfl : k = l.length := by omega
      have O6 := hO.out
      rw [List.take_length] at O6
      obtain ⟨P, hP⟩ := name_it (pathsL l)
      rw [hP.out] at O6
      have HPL : Hid (P.length = l.length) := by rw [← hP.out]; unfold pathsL Hid; rw [List.length_map]
      have HTP : Hid (topL l n = (srtT (cntF P)).take n.toNat) := by unfold Hid; rw [← hP.out]; rfl
      clear hP
      have CN := Lib.hid (count_any _ P w.heap.size wq (by rw [HPL.out]; exact O6) (by rw [HPL.out]; exact hl2))
      clear O6
      go_wp2_with fail
      all_goals (try (exfalso; omega))
      refine CN.out.mono ?_; rintro x w5 ⟨⟨v5, rfl, hv5⟩, b5⟩
      have D5 := Lib.hid (hbr.out.trans (b5.mono hbr.out.size))
      have LR := Lib.hid (show w5.ownsRow w.heap.size tTal 2 v5 (cntF P).length (rowT (cntF P)) from hv5.mono hbr.out.size)
      clear hv5 b5 CN hO hbr
      have HQN : Hid ((cntF P).length ≤ 1000000) := by have h2 := cntF_len P; have h3 := HPL.out; have h4 := HFIT.out; unfold Hid; omega
      have HSR := Lib.hid (srtT_sorted (cntF P))
      have HPM := Lib.hid (srtT_perm (cntF P))
      have HOC : Hid (okC (srtT (cntF P))) := fun p hp => by
        have h1 := cnt_bd P p ((srtT_perm _).mem_iff.1 hp)
        have h2 := HPL.out
        have h3 := HFIT.out
        omega
      obtain ⟨C, hC⟩ := name_it (cntF P)
      rw [hC.out] at LR HQN HSR HPM HOC HTP
      have hlc : C.length ≤ 1000000 := HQN.out
      obtain ⟨S, hS⟩ := name_it (srtT C)
      have hsl : S.length = C.length := by rw [← hS.out]; exact srtT_len C
      rw [hS.out] at HSR HPM HOC HTP
      have HSL := Lib.hid hsl
      clear hC hS hsl
      clear hlc
      go_wp2_with fail
      have T0 : Hid (RTp w (w5.alloc (.cells #[] tTal)) S C 0 v5 (.slice (some ⟨w5.heap.size, 0, none⟩) 0 0)) := {
        lrow := LR.out.alloc _
        orow := World.ownsRow_lit w5 (base := w.heap.size) (e := tTal) (size := 2) #[] 0 D5.out.size (by decide) rfl
        ne := fun g hg h => by
          have h1 := (World.ownsRow.lt LR.out g hg).2
          injection h with h
          dsimp only at h
          omega
        perm := HPM.out.symm
        jle := Nat.zero_le _
        below := D5.out.alloc D5.out.size _ }
      clear LR HPM D5
      go_loopw [7, 8] (fun lv ov wr => ∃ (left : List (Tx × Int)) (j : Nat), j ≤ n.toNat ∧ Hid (RTp w wr S left j lv ov)) (fun lv _ _ => lenV lv)
      case atStart => exact ⟨_, 0, Nat.zero_le _, T0⟩
      clear T0
      case round =>
        obtain ⟨left, j, hjn, hT⟩ := hrel
        obtain ⟨wq, hwq⟩ : ∃ wq, wq = wr := ⟨wr, rfl⟩
        subst hwq
        obtain ⟨sl, cl, hvl⟩ := row_slice hT.out.lrow
        obtain ⟨so, co, hvo⟩ := row_slice hT.out.orow
        subst hvl hvo
        have hll := hT.out.llen
        have hsz := HSL.out
        have hqn := HQN.out
        have hjl := hT.out.jle
        by_cases hgo : 0 < left.length ∧ (j : Int) < n
        · obtain ⟨hg1, hg2⟩ := hgo
          obtain ⟨gl, rfl⟩ : ∃ g, sl = some ⟨g, 0, none⟩ := by
            rcases hT.out.lrow.2 with ⟨_, h0⟩ | ⟨g, cap', cur, h, _⟩
            · omega
            · injection h with h _ _; exact ⟨g, h⟩
          have hcl : left.length ≤ cl := by
            rcases hT.out.lrow.2 with ⟨_, h0⟩ | ⟨g, cap', cur, h, _, _, hc, _⟩
            · omega
            · injection h with _ _ h; rw [h]; exact hc
          have d1 : decide ((0 : Int) < (left.length : Int)) = true := decide_eq_true (by omega)
          have d2 : decide ((j : Int) < n) = true := decide_eq_true hg2
          have HC := Lib.hid (fun W (hW : Below wq.heap.size wq W) => (hT.out.next hW).cell)
          have OKL : Hid (∀ i (hi : i < left.length), 0 ≤ left[i].2 ∧ left[i].2 ≤ 1000000) := fun i hi => HOC.out _ (List.mem_of_mem_drop (hT.out.perm.mem_iff.1 (List.getElem_mem hi)))
          have hln : left.length ≤ 1000000 := by omega
          replace hll := Lib.hid hll
          clear hsz
          go_wp2_with fail
          all_goals (try (exfalso; omega))
          go_loopw [9, 10] (fun bv kv wi => ∃ bi k : Nat, bi < k ∧ k ≤ left.length ∧ bv = .int .i64 bi ∧ kv = .int .i64 k ∧ BestAt left bi k ∧ Hid (Below wq.heap.size wq wi)) (fun _ k _ => left.length - (intOf k).toNat)
          case atStart =>
            refine ⟨0, 1, by omega, by omega, rfl, rfl, ⟨hg1, ?_⟩, Below.refl _ _⟩
            intro x hx
            rcases left with _ | ⟨y, r⟩
            · simp at hg1
            · simp at hx
              subst hx
              exact befT_irrefl _
          case round =>
            obtain ⟨bi, k, hbk, hk, rfl, rfl, ⟨hb, hbest⟩, hD⟩ := hrel
            obtain ⟨wi, hwi⟩ : ∃ wi, wi = wr := ⟨wr, rfl⟩
            subst hwi
            have b0 : (0 : Int) ≤ (bi : Int) := by omega
            have k0 : (0 : Int) ≤ (k : Int) := by omega
            have b1 : (bi : Int) < (left.length : Int) := by omega
            by_cases hlt : k < left.length
            · have k1 : (k : Int) < (left.length : Int) := by omega
              obtain ⟨x1, x2⟩ := HC.out wi hD.out k hlt
              obtain ⟨y1, y2⟩ := HC.out wi hD.out bi hb
              have HBS := Lib.hid (best_same hlt hb hbest)
              have HBN := Lib.hid (best_new hlt hb hbest)
              have hbf := befT_iff left[k] left[bi]
              have e1 : (bs left[k].1).toList = left[k].1 := by rw [toList_L, L_bs]
              have e2 : (bs left[bi].1).toList = left[bi].1 := by rw [toList_L, L_bs]
              have hls := less_before left[k].1 left[bi].1
              clear hbest
              by_cases hc1 : left[bi].2 < left[k].2
              · have hn : befT left[k] left[bi] = true := hbf.2 (Or.inl hc1)
                have HN := Lib.hid (HBN.out hn)
                obtain ⟨cx, hcx⟩ := name_it left[k].2
                obtain ⟨cy, hcy⟩ := name_it left[bi].2
                obtain ⟨X, hX⟩ := name_it (bs left[k].1)
                obtain ⟨Y, hY⟩ := name_it (bs left[bi].1)
                rw [hcx.out] at x2 hc1
                rw [hcy.out] at y2 hc1
                rw [hX.out] at x1
                rw [hY.out] at y1
                clear hbf e1 e2 hls hn hcx hcy hX hY HBS HBN
                have g1 : decide (cy < cx) = true := decide_eq_true hc1
                go_wp2_with fail
                all_goals (try (exfalso; omega))
                go_quiet (fail)
                have D8 : Hid (Below wq.heap.size wq (wi.drewN nq)) := below_drewN hD.out nq
                go_wp2_with fail
                all_goals (try (exfalso; omega))
                go_roundw
                case rel => exact ⟨k, k + 1, by omega, by omega, rfl, by go_num, ⟨hlt, HN.out⟩, D8⟩
                case measure => simp [intOf] <;> omega
              · by_cases hc2 : left[k].2 = left[bi].2
                · cases hle : Op.bytesLess left[k].1 left[bi].1 with
                  | true =>
                    have hn : befT left[k] left[bi] = true := hbf.2 (Or.inr ⟨hc2, by rw [← hls]; exact hle⟩)
                    have HN := Lib.hid (HBN.out hn)
                    rw [← e1, ← e2] at hle
                    obtain ⟨cx, hcx⟩ := name_it left[k].2
                    obtain ⟨cy, hcy⟩ := name_it left[bi].2
                    obtain ⟨X, hX⟩ := name_it (bs left[k].1)
                    obtain ⟨Y, hY⟩ := name_it (bs left[bi].1)
                    rw [hcx.out] at x2 hc1 hc2
                    rw [hcy.out] at y2 hc1 hc2
                    rw [hX.out] at x1 hle
                    rw [hY.out] at y1 hle
                    clear hbf e1 e2 hls hn hcx hcy hX hY HBS HBN
                    have g1 : decide (cy < cx) = false := decide_eq_false hc1
                    have g2 : (cx == cy) = true := by simpa using hc2
                    go_wp2_with fail
                    all_goals (try (exfalso; omega))
                    go_quiet (fail)
                    have D8 : Hid (Below wq.heap.size wq (wi.drewN nq)) := below_drewN hD.out nq
                    go_wp2_with fail
                    all_goals (try (exfalso; omega))
                    go_roundw
                    case rel => exact ⟨k, k + 1, by omega, by omega, rfl, by go_num, ⟨hlt, HN.out⟩, D8⟩
                    case measure => simp [intOf] <;> omega
                  | false =>
                    have hn : befT left[k] left[bi] = false := by
                      rw [Bool.eq_false_iff, ne_eq, hbf]
                      rintro (h | ⟨_, h⟩)
                      · exact hc1 h
                      · rw [← hls, hle] at h; cases h
                    have HN := Lib.hid (HBS.out hn)
                    rw [← e1, ← e2] at hle
                    obtain ⟨cx, hcx⟩ := name_it left[k].2
                    obtain ⟨cy, hcy⟩ := name_it left[bi].2
                    obtain ⟨X, hX⟩ := name_it (bs left[k].1)
                    obtain ⟨Y, hY⟩ := name_it (bs left[bi].1)
                    rw [hcx.out] at x2 hc1 hc2
                    rw [hcy.out] at y2 hc1 hc2
                    rw [hX.out] at x1 hle
                    rw [hY.out] at y1 hle
                    clear hbf e1 e2 hls hn hcx hcy hX hY HBS HBN
                    have g1 : decide (cy < cx) = false := decide_eq_false hc1
                    have g2 : (cx == cy) = true := by simpa using hc2
                    go_wp2_with fail
                    all_goals (try (exfalso; omega))
                    go_quiet (fail)
                    have D8 : Hid (Below wq.heap.size wq (wi.drewN nq)) := below_drewN hD.out nq
                    go_wp2_with fail
                    all_goals (try (exfalso; omega))
                    go_roundw
                    case rel => exact ⟨bi, k + 1, by omega, by omega, rfl, by go_num, ⟨hb, HN.out⟩, D8⟩
                    case measure => simp [intOf] <;> omega
                · have hn : befT left[k] left[bi] = false := by
                    rw [Bool.eq_false_iff, ne_eq, hbf]
                    rintro (h | ⟨h, _⟩)
                    · exact hc1 h
                    · exact hc2 h
                  have HN := Lib.hid (HBS.out hn)
                  obtain ⟨cx, hcx⟩ := name_it left[k].2
                  obtain ⟨cy, hcy⟩ := name_it left[bi].2
                  obtain ⟨X, hX⟩ := name_it (bs left[k].1)
                  obtain ⟨Y, hY⟩ := name_it (bs left[bi].1)
                  rw [hcx.out] at x2 hc1 hc2
                  rw [hcy.out] at y2 hc1 hc2
                  rw [hX.out] at x1
                  rw [hY.out] at y1
                  clear hbf e1 e2 hls hn hcx hcy hX hY HBS HBN
                  have g1 : decide (cy < cx) = false := decide_eq_false hc1
                  have g2 : (cx == cy) = false := by simpa using hc2
                  go_wp2_with fail
                  all_goals (try (exfalso; omega))
                  go_quiet (fail)
                  have D8 : Hid (Below wq.heap.size wq (wi.drewN nq)) := below_drewN hD.out nq
                  go_wp2_with fail
                  all_goals (try (exfalso; omega))
                  go_roundw
                  case rel => exact ⟨bi, k + 1, by omega, by omega, rfl, by go_num, ⟨hb, HN.out⟩, D8⟩
                  case measure => simp [intOf] <;> omega
            · have hkl : k = left.length := by omega
              subst hkl
              rw [List.take_length] at hbest
              have d3 : decide ((left.length : Int) < (left.length : Int)) = false := decide_eq_false (by omega)
              have T6 := Lib.hid (hT.out.next hD.out)
              have HNB := Lib.hid (next_best HSR.out hT.out.perm (List.getElem_mem hb) hbest)
              obtain ⟨y1, y2⟩ := HC.out wi hD.out bi hb
              have b2 : (bi : Int) + 1 ≤ (left.length : Int) := by omega
              have hjc : j ≤ 1000000 := by have h := HSL.out; omega
              go_wp2_with (at_builtin; refine appendZ rfl _ _ 57 rfl w.heap.size tTal j0 (.agg #[.string ⟨#[]⟩, .int .i64 0]) 2 24 Tryz.underlying57 ji jz0 jz1 jz2 rfl (by decide) T6.out.orow rfl #[.string (bs left[bi].1), .int .i64 left[bi].2] rfl (by intro u hu; simp only [List.mem_cons, List.not_mem_nil, or_false] at hu; rcases hu with rfl | rfl <;> rfl) rfl (by first | rfl | (simp; done)) ?_ ?_ ?_ ?_)
              · unfold maxLen; omega
              · omega
              · exact T6.out.below.size
              intro g6 cap6 w6 hown6 hb6 hat6 hk6
              have O6 : Hid (w6.ownsRow w.heap.size tTal 2 (.slice (some ⟨g6, 0, none⟩) (j + 1) cap6) (j + 1) (rowT (S.take (j + 1)))) := by
                unfold Hid
                rw [List.take_add_one, HNB.out]
                show w6.ownsRow _ _ _ _ _ (rowT (S.take j ++ [left[bi]]))
                rw [← rowT_snoc]
                exact hown6
              have L6 : Hid (w6.ownsRow w.heap.size tTal 2 (.slice (some ⟨gl, 0, none⟩) left.length cl) left.length (rowT left)) := row_kept T6.out.lrow (fun g hg => hk6.block g (World.ownsRow.lt T6.out.lrow g hg).2 (T6.out.ne g hg))
              have D6 := Lib.hid (T6.out.below.trans hb6)
              have HGL := Lib.hid (World.ownsRow.lt L6.out gl rfl)
              have HPD := Lib.hid (drop_erase T6.out.perm hb HNB.out)
              have HJS : Hid (j + 1 ≤ S.length) := by
                unfold Hid
                rcases Nat.lt_or_ge j S.length with h | h
                · exact h
                · have h2 := HNB.out; rw [List.getElem?_eq_none h] at h2; cases h2
              clear hown6 hb6 hat6 hk6 y1 y2 hbest
              have R1 : Hid ((w6.alloc (.cells #[] tTal)).drew.ownsRow w.heap.size tTal 2 (.slice (some ⟨w6.heap.size, 0, none⟩) 0 0) 0 []) := (World.ownsRow_lit w6 #[] 0 D6.out.size (by decide) rfl).drew
              have B1 : Hid (Below w.heap.size w (w6.alloc (.cells #[] tTal)).drew) := (D6.out.alloc D6.out.size _).drew
              have NA : Hid (∀ i u, (rowT (left.take bi))[i]? = some u → (w6.alloc (.cells #[] tTal)).drew.cell? ((⟨gl, 0, none⟩ : Addr).add i) = some u) := by
                intro i u hi
                have hil : i < bi * 2 := by have h := (List.getElem?_eq_some_iff.1 hi).1; rw [rowT_len, List.length_take] at h; omega
                rw [Addr.add_lit, Nat.zero_add]
                have h1 := L6.out.cellAt i (by omega)
                have h2 : (rowT left)[i]? = some u := by
                  rw [← hi]
                  conv => lhs; rw [← List.take_append_drop bi left]
                  unfold rowT
                  rw [List.flatMap_append]
                  exact List.getElem?_append_left (by have := rowT_len (left.take bi); unfold rowT at this; rw [this, List.length_take]; omega)
                exact (((Below.refl w6.heap.size w6).alloc (Nat.le_refl _) (.cells #[] tTal)).cell (p := ⟨gl, i, none⟩) HGL.out.2).trans (h1.trans h2)
              have LA : Hid ((rowT (left.take bi)).length = bi * 2) := by unfold Hid; rw [rowT_len, List.length_take]; omega
              have LB : Hid ((rowT (left.drop (bi + 1))).length = (left.length - (bi + 1)) * 2) := by unfold Hid; rw [rowT_len, List.length_drop]
              have NB : Hid (∀ W : World, W.heap[gl]? = w6.heap[gl]? → ∀ i u, (rowT (left.drop (bi + 1)))[i]? = some u → W.cell? ((⟨gl, (bi + 1) * 2, none⟩ : Addr).add i) = some u) := by
                intro W hW i u hi
                have hil : i < (left.length - (bi + 1)) * 2 := by have h := (List.getElem?_eq_some_iff.1 hi).1; rw [LB.out] at h; exact h
                rw [Addr.add_lit]
                have h1 := L6.out.cellAt ((bi + 1) * 2 + i) (by omega)
                have h2 : (rowT left)[(bi + 1) * 2 + i]? = some u := by
                  rw [← hi]
                  conv => lhs; rw [← List.take_append_drop (bi + 1) left]
                  have hlen : (rowT (left.take (bi + 1))).length = (bi + 1) * 2 := by rw [rowT_len, List.length_take]; omega
                  unfold rowT at hlen ⊢
                  rw [List.flatMap_append, List.getElem?_append_right (by rw [hlen]; omega), hlen, Nat.add_sub_cancel_left]
                rw [← h2, ← h1]
                unfold World.cell?
                rw [hW]
              have Z1 : Hid ((w6.alloc (.cells #[] tTal)).drew.heap.size = w6.heap.size + 1) := Array.size_push ..
              have K1 : Hid (Below w6.heap.size w6 (w6.alloc (.cells #[] tTal)).drew) := ((Below.refl _ _).alloc (Nat.le_refl _) _).drew
              have hbc : bi ≤ cl := by omega
              have hbl : bi + 1 ≤ left.length := by omega
              have hbc2 : bi + 1 ≤ cl := by omega
              have hwb : IntKind.i64.wrap ((bi : Int) + 1) = (bi : Int) + 1 := IntWalk.i64_in _ (by omega)
              have hwn : ((bi : Int) + 1).toNat = bi + 1 := by omega
              have hw0 : (0 : Int) ≤ (bi : Int) + 1 := by omega
              by_cases hce : cl = bi + 1
              · subst hce
                have hl1 : left.length = bi + 1 := by omega
                have hz : left.length - (bi + 1) = 0 := by omega
                have NV : Hid (∀ (W : World) (ad : Addr) i u, (rowT (left.drop (bi + 1)))[i]? = some u → W.cell? (ad.add i) = some u) := by
                  intro W ad i u hi
                  have h := (List.getElem?_eq_some_iff.1 hi).1
                  rw [LB.out] at h
                  omega
                have LZ : Hid ((rowT (left.drop (bi + 1))).length = 0 * 2) := by unfold Hid; rw [LB.out, hz]
                have HZE := Lib.hid hz
                clear hl1 hz
                have hx1 : (bi : Int) ≤ (bi : Int) + 1 := by omega
                have hx2 : bi ≤ bi + 1 := by omega
                go_wp2_with fail
                all_goals (try (exfalso; omega))
                go_region_law (first
                  | (refine step_append_at (by rfl) _ _ 57 (by rfl) w.heap.size tTal j0 (.agg #[.string ⟨#[]⟩, .int .i64 0]) 2 24 Tryz.underlying57 ji jz0 jz1 jz2 rfl (by decide) (.slice (some ⟨w6.heap.size, 0, none⟩) 0 0) 0 [] (by rfl) R1.out ⟨gl, 0, none⟩ bi (bi + 1) (rowT (left.take bi)) (by rfl) LA.out NA.out (rowT_one _) (by unfold maxLen; omega) (by omega) B1.out.size ?_; intro v7 w7 hown7 hgrow7 _ hat7; have B7 : Hid (Below w.heap.size w w7) := B1.out.trans (own_belowL R1.out hgrow7 B1.out.size); have G7 : Hid (w7.heap[gl]? = w6.heap[gl]?) := (hgrow7.block gl (Nat.lt_of_lt_of_le HGL.out.2 K1.out.size) (by intro e; injection e with e; have h1 := HGL.out; dsimp only at e; omega)).trans (K1.out.block gl HGL.out.2))
                  | (refine step_append_at (by rfl) _ _ 57 (by rfl) w.heap.size tTal j0 (.agg #[.string ⟨#[]⟩, .int .i64 0]) 2 24 Tryz.underlying57 ji jz0 jz1 jz2 rfl (by decide) v7 (0 + bi) ([] ++ rowT (left.take bi)) (by rfl) hown7 ⟨gl, 0, none⟩ 0 _ (rowT (left.drop (bi + 1))) (by rfl) LZ.out (NV.out w7 _) (rowT_one _) (by unfold maxLen; omega) (by omega) B7.out.size ?_; intro v9 w9 hown9 hgrow9 _ hat9))
                all_goals
                  have TA := two_appends Z1.out K1.out hgrow7 (by exact hat7) hgrow9 hat9
                  have T9 : Hid (RTp w w9 S (left.take bi ++ left.drop (bi + 1)) (j + 1) v9 (.slice (some ⟨g6, 0, none⟩) (j + 1) cap6)) := {
                    lrow := by
                      rw [List.length_append, List.length_take, List.length_drop, show min bi left.length = bi by omega, HZE.out]
                      have h : rowT (left.take bi ++ left.drop (bi + 1)) = rowT (left.take bi) ++ rowT (left.drop (bi + 1)) := by unfold rowT; rw [List.flatMap_append]
                      rw [h]
                      rw [Nat.zero_add, List.nil_append] at hown9
                      exact hown9
                    orow := row_kept O6.out (fun g hg => TA.2.block g (World.ownsRow.lt O6.out g hg).2)
                    ne := fun g hg h => by
                      have h1 := TA.1 g hg
                      have h2 := (World.ownsRow.lt O6.out g h).2
                      omega
                    perm := HPD.out
                    jle := HJS.out
                    below := D6.out.trans (TA.2.mono D6.out.size) }
                  have HL9 : Hid (lenV v9 = left.length - 1) := by
                    obtain ⟨p9, c9, h9⟩ := row_slice T9.out.lrow
                    rw [h9]
                    show (left.take bi ++ left.drop (bi + 1)).length = _
                    rw [List.length_append, List.length_take, List.length_drop]
                    omega
                  clear hown7 hgrow7 hat7 hown9 hgrow9 hat9 TA
                  first | go_wp2_with fail | skip
                  try simp only [Act.put, List.getElem_toArray, List.getElem_cons_succ, List.getElem_cons_zero, List.setIfInBounds_toArray, List.set_cons_succ, List.set_cons_zero]
                  go_roundw
                case rel => exact ⟨_, j + 1, by omega, T9⟩
                case measure => have h := HL9.out; simp [lenV] at h ⊢; omega
              · skip
                go_wp2_with fail
                all_goals (try (exfalso; omega))
                go_region_law (first
                  | (refine step_append_at (by rfl) _ _ 57 (by rfl) w.heap.size tTal j0 (.agg #[.string ⟨#[]⟩, .int .i64 0]) 2 24 Tryz.underlying57 ji jz0 jz1 jz2 rfl (by decide) (.slice (some ⟨w6.heap.size, 0, none⟩) 0 0) 0 [] (by rfl) R1.out ⟨gl, 0, none⟩ bi cl (rowT (left.take bi)) (by rfl) LA.out NA.out (rowT_one _) (by unfold maxLen; omega) (by omega) B1.out.size ?_; intro v7 w7 hown7 hgrow7 _ hat7; have B7 : Hid (Below w.heap.size w w7) := B1.out.trans (own_belowL R1.out hgrow7 B1.out.size); have G7 : Hid (w7.heap[gl]? = w6.heap[gl]?) := (hgrow7.block gl (Nat.lt_of_lt_of_le HGL.out.2 K1.out.size) (by intro e; injection e with e; have h1 := HGL.out; dsimp only at e; omega)).trans (K1.out.block gl HGL.out.2))
                  | (refine step_append_at (by rfl) _ _ 57 (by rfl) w.heap.size tTal j0 (.agg #[.string ⟨#[]⟩, .int .i64 0]) 2 24 Tryz.underlying57 ji jz0 jz1 jz2 rfl (by decide) v7 (0 + bi) ([] ++ rowT (left.take bi)) (by rfl) hown7 ⟨gl, (bi + 1) * 2, none⟩ (left.length - (bi + 1)) (cl - (bi + 1)) (rowT (left.drop (bi + 1))) (by rfl) LB.out (NB.out w7 G7.out) (rowT_one _) (by unfold maxLen; omega) (by omega) B7.out.size ?_; intro v9 w9 hown9 hgrow9 _ hat9))
                all_goals
                  have TA := two_appends Z1.out K1.out hgrow7 (by exact hat7) hgrow9 hat9
                  have T9 : Hid (RTp w w9 S (left.take bi ++ left.drop (bi + 1)) (j + 1) v9 (.slice (some ⟨g6, 0, none⟩) (j + 1) cap6)) := {
                    lrow := by
                      rw [List.length_append, List.length_take, List.length_drop, show min bi left.length = bi by omega]
                      have h : rowT (left.take bi ++ left.drop (bi + 1)) = rowT (left.take bi) ++ rowT (left.drop (bi + 1)) := by unfold rowT; rw [List.flatMap_append]
                      rw [h]
                      rw [Nat.zero_add, List.nil_append] at hown9
                      exact hown9
                    orow := row_kept O6.out (fun g hg => TA.2.block g (World.ownsRow.lt O6.out g hg).2)
                    ne := fun g hg h => by
                      have h1 := TA.1 g hg
                      have h2 := (World.ownsRow.lt O6.out g h).2
                      omega
                    perm := HPD.out
                    jle := HJS.out
                    below := D6.out.trans (TA.2.mono D6.out.size) }
                  have HL9 : Hid (lenV v9 = left.length - 1) := by
                    obtain ⟨p9, c9, h9⟩ := row_slice T9.out.lrow
                    rw [h9]
                    show (left.take bi ++ left.drop (bi + 1)).length = _
                    rw [List.length_append, List.length_take, List.length_drop]
                    omega
                  clear hown7 hgrow7 hat7 hown9 hgrow9 hat9 TA
                  first | go_wp2_with fail | skip
                  try simp only [Act.put, List.getElem_toArray, List.getElem_cons_succ, List.getElem_cons_zero, List.setIfInBounds_toArray, List.set_cons_succ, List.set_cons_zero]
                  go_roundw
                case rel => exact ⟨_, j + 1, by omega, T9⟩
                case measure => have h := HL9.out; simp [lenV] at h ⊢; omega
        · have hfin := hT.out.done hjn (by omega)
          have HR : Hid (wq.ownsRow w.heap.size tTal 2 (.slice so j co) (topL l n).length (rowT (topL l n))) := by
            unfold Hid
            have hj : (S.take j).length = j := by rw [List.length_take]; omega
            rw [HTP.out, ← hfin, hj]
            exact hT.out.orow
          have DB := Lib.hid hT.out.below
          have hsp : left.length = 0 ∨ (0 < left.length ∧ ¬ (j : Int) < n) := by omega
          clear hfin hT hll hsz
          rcases hsp with h0 | ⟨h0, h1⟩
          · have d1 : decide ((0 : Int) < (left.length : Int)) = false := decide_eq_false (by omega)
            have h0' : left.length ≤ 0 := by omega
            clear h0
            go_wp2_with fail
            all_goals (try (exfalso; omega))
            go_ret
            exact ⟨⟨_, rfl, HR.out⟩, DB.out⟩
          · have d1 : decide ((0 : Int) < (left.length : Int)) = true := decide_eq_true (by omega)
            have d2 : decide ((j : Int) < n) = false := decide_eq_false h1
            go_wp2_with fail
            all_goals (try (exfalso; omega))
            go_ret
            exact ⟨⟨_, rfl, HR.out⟩, DB.out⟩
end Go.Proofs.YtfgaiopkclogmaaGreatDoor
