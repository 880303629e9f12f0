/- Books of ledger: Top: the paths that most entries have. -/
import Derived.Test.YtfgaiopkclogmaaGreatDoorLedgTbJ
import Derived.Test.YtfgaiopkclogmaaGreatDoorLedgCgJ
import Derived.Maps.RangeWalk
import Derived.Maps.StringElems
import Derived.Deep.Onto
namespace Go.Proofs.YtfgaiopkclogmaaGreatDoor
open Go Go.RowKit Go.MuLone Go.Maps Go.WideMaps
set_option maxHeartbeats 8000000

/-- where Top stands while it counts -/
structure TopA (w w2 wr : World) (l : List En) : Prop where
  m : wr.ownsMap Tryz.prog 9 (plainElem (H := Unit) Tryz.prog 3) w.heap.size l.length (mapC (pathsL l))
  kp : Keeps (fun i => i = w.heap.size) w2 wr
theorem ranges_kept2 {H : Type} {P : Program} {k : TypeId} {R : Value → Option (DataW H × List MemPlace)} {w w' : World} {b r n : Nat} {D : DataW H} {left : Lit → Bool} {cnt : Nat} (h : w.ranges P k R b r n D left cnt) (hb : w'.heap[b]? = w.heap[b]?) (hr : w'.heap[r]? = w.heap[r]?) : w'.ranges P k R b r n D left cnt := by
  obtain ⟨es, clock, since, seen, c0, h1, F, hs, hD, h2, rest⟩ := h
  exact ⟨es, clock, since, seen, c0, hb.trans h1, F, hs, hD, hr.trans h2, rest⟩
/-- where Top stands while it gathers -/
structure TopB (w wq wr : World) (P : List Tx) (n : Nat) (acc : List (Tx × Int)) (left : Lit → Bool) (cnt : Nat) (out : Value) : Prop where
  rg : wr.ranges Tryz.prog 9 (plainElem (H := Unit) Tryz.prog 3) w.heap.size wq.heap.size n (mapC P) left cnt
  row : wr.ownsRow (wq.heap.size + 1) tTl 2 out acc.length (rowT acc)
  nd : (keysF acc).Nodup
  ok : ∀ p ∈ acc, p.2 = cntIn (cntF P) p.1 ∧ p.1 ∈ keysF (cntF P)
  lf : ∀ k, left (keyL k) = decide (k ∈ P ∧ k ∉ keysF acc)
  dn : Below wq.heap.size wq wr
  mlt : w.heap.size < wq.heap.size
theorem TopB.len {w wq wr : World} {P : List Tx} {n : Nat} {acc : List (Tx × Int)} {left : Lit → Bool} {cnt : Nat} {out : Value} (h : TopB w wq wr P n acc left cnt out) : acc.length ≤ P.length := by
  have h1 : acc.length ≤ (cntF P).length := by
    rw [← keys_len acc, ← keys_len (cntF P)]
    exact List.Nodup.length_le_of_subset h.nd (fun k hk => by
      obtain ⟨p, hp, rfl⟩ := List.mem_map.1 hk
      exact (h.ok p hp).2)
  exact Nat.le_trans h1 (cntF_len P)
theorem sameKey_keyL (a b : Tx) : (keyL a).sameKey (keyL b) = decide (a = b) := by
  rw [Bool.eq_iff_iff]
  simp [Lit.sameKey, keyL]
theorem keyOf_str_inv {key : Value} {kl : Lit} (h : keyOf Tryz.prog 9 key = some kl) : ∃ s : ByteArray, key = .string s ∧ kl = keyL (L s) := by
  have hk := Tryz.underlying9
  cases key <;> simp [keyOf, hk, mapKey] at h
  obtain ⟨_, rfl⟩ := h
  exact ⟨_, rfl, rfl⟩
/-- an entry has come and been laid into the row -/
theorem TopB.step {w wq wr w1 w3 : World} {P : List Tx} {n : Nat} {acc : List (Tx × Int)} {left : Lit → Bool} {cnt cnt1 : Nat} {out out3 : Value} {x : Tx} {c : Int} (h : TopB w wq wr P n acc left cnt out)
    (hl : left (keyL x) = true) (hat : ∀ zd, (mapC P).atKey (keyL x) zd = .lit (.int .i64 c)) (hrg : w1.ranges Tryz.prog 9 (plainElem (H := Unit) Tryz.prog 3) w.heap.size wq.heap.size n (mapC P) (fun z => left z && !z.sameKey (keyL x)) cnt1) (hg : wr.grownBy w1 (some wq.heap.size)) (hb : Below (wq.heap.size + 1) w1 w3) (hrow : w3.ownsRow (wq.heap.size + 1) tTl 2 out3 (acc.length + 1) (rowT acc ++ [.string (bs x), .int .i64 c])) :
    TopB w wq w3 P n (acc ++ [(x, c)]) (fun z => left z && !z.sameKey (keyL x)) cnt1 out3 := by
  have hm := h.lf x
  rw [hl] at hm
  have hx := of_decide_eq_true hm.symm
  have hc : c = cntIn (cntF P) x := by
    have h1 := (mapC_facts P).2.1 x
    rw [hat] at h1
    injection h1 with h1; injection h1 with _ h1
  have hk1 : keysF (acc ++ [(x, c)]) = keysF acc ++ [x] := by unfold keysF; rw [List.map_append]; rfl
  exact {
    mlt := h.mlt
    rg := ranges_kept2 hrg (hb.block _ (Nat.lt_succ_of_lt h.mlt)) (hb.block _ (Nat.lt_succ_self _))
    row := by rw [List.length_append, List.length_singleton, ← rowT_snoc]; exact hrow
    nd := by
      rw [hk1, List.nodup_append]
      refine ⟨h.nd, by simp, fun a ha b hb' => ?_⟩
      rw [List.mem_singleton] at hb'
      subst hb'
      intro e; subst e
      exact hx.2 ha
    ok := fun p hp => by
      rw [List.mem_append, List.mem_singleton] at hp
      rcases hp with hp | rfl
      · exact h.ok p hp
      · exact ⟨hc, (mem_keys_cnt P x).2 hx.1⟩
    lf := fun k => by
      rw [h.lf k, sameKey_keyL, hk1, Bool.eq_iff_iff]
      simp only [Bool.and_eq_true, decide_eq_true_eq, Bool.not_eq_true', decide_eq_false_iff_not, List.mem_append, List.mem_singleton, not_or]
      constructor
      · rintro ⟨⟨a1, a2⟩, a3⟩; exact ⟨a1, a2, a3⟩
      · rintro ⟨a1, a2, a3⟩; exact ⟨⟨a1, a2⟩, a3⟩
    dn := (h.dn.trans ⟨hg.os, hg.tape, hg.output, hg.size, fun i hi => hg.block i (Nat.lt_of_lt_of_le hi h.dn.size) (by intro e; injection e with e; omega)⟩).trans (hb.mono (Nat.le_succ _)) }
theorem rowT_one (c : List (Tx × Int)) : ∀ u ∈ rowT c, u.oneCell' = true := by
  intro u hu
  obtain ⟨p, _, hp⟩ := List.mem_flatMap.1 hu
  simp [encT] at hp
  rcases hp with rfl | rfl <;> rfl
theorem topB_done {w wq wr : World} {P : List Tx} {n : Nat} {acc : List (Tx × Int)} {left : Lit → Bool} {cnt : Nat} {out : Value} (h : TopB w wq wr P n acc left cnt out) (hl : ∀ kl, left kl = false) : srtT acc = srtT (cntF P) := by
  refine srtT_unique ((srtT_perm acc).trans (acc_perm h.nd (keys_nodup P) h.ok (fun k hk => ?_))) (srtT_sorted acc)
  have h1 := h.lf k
  rw [hl] at h1
  have h2 := of_decide_eq_false h1.symm
  by_cases hm : k ∈ keysF acc
  · exact hm
  · exact absurd ⟨(mem_keys_cnt P k).1 hk, hm⟩ h2
theorem topB_ok {w wq wr : World} {P : List Tx} {n : Nat} {acc : List (Tx × Int)} {left : Lit → Bool} {cnt : Nat} {out : Value} (h : TopB w wq wr P n acc left cnt out) (hP : P.length ≤ 1000000) : okC acc := by
  intro p hp
  have h1 := (h.ok p hp).1
  have h2 := cntIn_le P p.1
  omega

set_option maxRecDepth 100000 in
theorem top_any (pv : Value) (l : List En) (n : Int) (w : World) (hZ : EnvZ w) (hE : Ent pv l w) (hok : ∀ e ∈ l, okE e) (hl : l.length ≤ 1000000) :
    Calls Tryz.prog 20 #[pv, .int .i64 n] w fun e w' => (∃ v2, e = .returned v2 ∧ w'.ownsRow w.heap.size tTl 2 v2 (topL l n).length (rowT (topL l n))) ∧ Below w.heap.size w w' := by
  have hmm := @run_makeMap Tryz.prog
  have z1 : (w.alloc (.map #[] 0)).heap.size = w.heap.size + 1 := Array.size_push ..
  have Z1 := Lib.hid z1
  have B0 := Lib.hid ((Below.refl w.heap.size w).alloc (Nat.le_refl _) (.map #[] 0))
  have M0 : Hid ((w.alloc (.map #[] 0)).ownsMap Tryz.prog 9 (plainElem (H := Unit) Tryz.prog 3) w.heap.size 0 (mapC (pathsL []))) := World.ownsMap_made (H := Unit) w Tryz.prog 9 (plainElem (H := Unit) Tryz.prog 3)
  have HE := Lib.hid (hE _ B0.out)
  have HZ := Lib.hid hZ
  have HOK := Lib.hid hok
  have hl2 : l.length ≤ 1073741824 := by omega
  have HL := Lib.hid hl
  have HPL : Hid ((pathsL l).length = l.length) := by unfold pathsL Hid; rw [List.length_map]
  obtain ⟨i0, hi, hz0, hz1, hz2⟩ := info_parts infoTl
  clear z1 hE hZ hok hl
  obtain ⟨TL, hTL⟩ := name_it (topL l n)
  rw [hTL.out]
  go_enter Tryz.func20, Tryz.ntmps20
  go_wp2_with fail
  refine HE.out.mono ?_; rintro x w2 ⟨⟨v2, rfl, hown⟩, b2⟩
  have ROW := Lib.hid hown
  have B2 := Lib.hid (B0.out.trans (b2.mono B0.out.size))
  have T2 : Hid (TopA w w2 w2 []) := ⟨M0.out.kept (grown_of b2) (by simp), Keeps.refl _ _⟩
  have S2 := Lib.hid (show w.heap.size + 1 ≤ w2.heap.size from Z1.out ▸ b2.size)
  have RB : Hid (∀ g, v2.ownBlock = some g → w.heap.size + 1 ≤ g) := fun g hg => Z1.out ▸ (World.ownsRow.lt ROW.out g hg).1
  clear hown b2 HE M0 B0 Z1
  obtain ⟨sp, cap, hv2⟩ := row_slice ROW.out
  subst hv2
  go_wp2_with fail
  go_loopw [15] (fun i wr => ∃ k : Nat, k ≤ l.length ∧ i = .int .i64 k ∧ Hid (TopA w w2 wr (l.take k))) (fun i _ => l.length - (intOf i).toNat)
  case atStart => exact ⟨0, Nat.zero_le _, rfl, T2⟩
  clear T2
  case round =>
    obtain ⟨k, hk, rfl, hT⟩ := hrel
    obtain ⟨wq, hwq⟩ : ∃ wq, wq = wr := ⟨wr, rfl⟩
    subst hwq
    have DW : Hid (Below w.heap.size w wq) := B2.out.trans (hT.out.kp.below (fun i hi h => by omega) B2.out.size)
    have szq : Hid (w.heap.size + 1 ≤ wq.heap.size) := Nat.le_trans S2.out hT.out.kp.size
    by_cases hlt : k < l.length
    · have q0 : (0 : Int) ≤ (k : Int) := by omega
      have q1 : (k : Int) < (l.length : Int) := by omega
      have ROWQ := Lib.hid (row_kept ROW.out (fun g hg => hT.out.kp.block g (World.ownsRow.lt ROW.out g hg).2 (by have := RB.out g hg; omega)))
      obtain ⟨g, rfl⟩ : ∃ g, sp = some ⟨g, 0, none⟩ := by
        rcases ROW.out.2 with ⟨_, h0⟩ | ⟨g, cap', cur, h, _⟩
        · omega
        · injection h with h _ _; exact ⟨g, h⟩
      have HX := Lib.hid (HOK.out l[k] (List.getElem_mem hlt))
      have ck : ∀ i, i < 8 → wq.cell? ⟨g, k * 8 + i, none⟩ = (cellsE l[k])[i]? := fun i hi => (ROWQ.out.cellAt (k * 8 + i) (by omega)).trans (rowE_get l k i hlt hi)
      have htk : l.take (k + 1) = l.take k ++ [l[k]] := List.take_succ_eq_append_getElem hlt
      have hlk : (l.take k).length = k := by rw [List.length_take]; omega
      obtain ⟨e, he⟩ := name_it l[k]
      rw [he.out] at HX ck htk
      clear he
      obtain ⟨acc, hacc⟩ := name_it (l.take k)
      rw [hacc.out] at hT htk hlk
      have HTK := Lib.hid htk
      have HLK := Lib.hid hlk
      clear hacc htk hlk
      have c0 : wq.cell? ⟨g, k * 8, none⟩ = some (.string (bs e.name)) := ck 0 (by decide)
      have c1 : wq.cell? ⟨g, k * 8 + 1, none⟩ = some (.int .i64 e.conn) := ck 1 (by decide)
      have c2 : wq.cell? ⟨g, k * 8 + 2, none⟩ = some (.int .i64 e.numb) := ck 2 (by decide)
      have c3 : wq.cell? ⟨g, k * 8 + 3, none⟩ = some (.string (bs e.meth)) := ck 3 (by decide)
      have c4 : wq.cell? ⟨g, k * 8 + 4, none⟩ = some (.string (bs e.tgt)) := ck 4 (by decide)
      have c5 : wq.cell? ⟨g, k * 8 + 5, none⟩ = some (.int .i64 e.stat) := ck 5 (by decide)
      have c6 : wq.cell? ⟨g, k * 8 + 6, none⟩ = some (.int .i64 e.byts) := ck 6 (by decide)
      have c7 : wq.cell? ⟨g, k * 8 + 7, none⟩ = some (.int .i64 e.tick) := ck 7 (by decide)
      clear ck
      have hle2 := cntIn_le (pathsL acc) (pathL e.tgt)
      rw [show (pathsL acc).length = k from by unfold pathsL; rw [List.length_map]; exact HLK.out] at hle2
      obtain ⟨n2, hn2⟩ := name_it (cntIn (cntF (pathsL acc)) (pathL e.tgt))
      rw [hn2.out] at hle2
      obtain ⟨g3, g4⟩ := hle2
      have HC2 := Lib.hid (cnt_at (pathsL acc) (pathL e.tgt) hn2.out)
      have HP2 := Lib.hid (cnt_put (pathsL acc) (pathL e.tgt) hn2.out)
      have HK2 := Lib.hid (keyB (pathL e.tgt) (by have := HX.out.n3; have := path_le e.tgt; omega))
      have HAK := Lib.hid (show acc.length < maxLen from by rw [HLK.out]; unfold maxLen; omega)
      have MA := Lib.hid (hT.out.m.alloc (.cells #[.string (bs e.name), .int .i64 e.conn, .int .i64 e.numb, .string (bs e.meth), .string (bs e.tgt), .int .i64 e.stat, .int .i64 e.byts, .int .i64 e.tick] tE))
      have dA := Lib.hid ((Below.refl wq.heap.size wq).alloc (Nat.le_refl _) (.cells #[.string (bs e.name), .int .i64 e.conn, .int .i64 e.numb, .string (bs e.meth), .string (bs e.tgt), .int .i64 e.stat, .int .i64 e.byts, .int .i64 e.tick] tE))
      have EZ1 := Lib.hid (HZ.out.next (DW.out.trans (dA.out.mono DW.out.size)))
      go_wp2_with fail
      all_goals (try (exfalso; omega))
      refine (path_any (bs e.tgt) _ EZ1.out (by rw [size_bs]; have := HX.out.n3; omega)).mono ?_; rintro x w5 ⟨hx, b5⟩
      rw [L_bs] at hx
      subst hx
      have OWN5 := Lib.hid (MA.out.kept (grown_of b5) (by simp))
      have KP5 : Hid (Keeps (fun i => i = w.heap.size) wq w5) := (Keeps.of dA.out (Nat.le_refl _)).trans (Keeps.of b5 (Nat.le_refl _))
      clear b5 dA EZ1 MA c0 c1 c2 c3 c4 c5 c6 c7
      go_wp2_with (first
        | (at_lookup; refine wpList_lookup_own_int _ rfl _ _ 110 rfl 9 3 .i64 lawS Tryz.underlying110 Tryz.underlying3 (zeroI _) w.heap.size acc.length (mapC (pathsL acc)) rfl OWN5.out _ _ rfl HK2.out ?_; intro c hat hwc; rw [HC2.out c hat]; clear hat hwc)
        | (at_mapUpdate; go_loud (
              refine wpList_mapUpdate_own _ rfl _ _ _ 110 rfl 9 3 lawS Tryz.underlying110 _ w.heap.size acc.length (mapC (pathsL acc)) rfl OWN5.out HAK.out _ _ _ rfl rfl HK2.out (.lit (.int .i64 (n2 + 1))) [] (plainElem_int Tryz.underlying3 (by go_wf)) ?_; intro w6 hown6 hgrow6;
              rw [HP2.out] at hown6;
              have M26 := Lib.hid hown6;
              have KP6 : Hid (Keeps (fun i => i = w.heap.size) wq w6) := KP5.out.trans (keeps_grown hgrow6 rfl);
              clear hown6 hgrow6))
        | fail)
      refine ⟨⟨k + 1, hlt, by simp, ?_⟩, by simp [intOf]; omega⟩
      rw [HTK.out]
      refine ⟨?_, hT.out.kp.trans KP6.out⟩
      rw [List.length_append]
      unfold pathsL at M26 ⊢
      rw [List.map_append]
      exact M26.out
    · have hkl : k = l.length := by omega
      subst hkl
      rw [List.take_length] at hT
      have MZ := Lib.hid hT.out.m
      obtain ⟨P, hP⟩ := name_it (pathsL l)
      rw [hP.out] at MZ HPL
      have hTP : Hid (TL = (srtT (cntF P)).take n.toNat) := by unfold Hid; rw [← hTL.out, ← hP.out]; rfl
      clear hT hP hTL
      go_wp2_with (first
        | (at_range; refine wpList_range_own _ rfl _ 110 rfl 9 3 lawS Tryz.underlying110 (plainElem (H := Unit) Tryz.prog 3) w.heap.size l.length (mapC P) rfl MZ.out ?_; intro w0 hrg0 hg0 hs0)
        | fail)
      all_goals (try (exfalso; omega))
      go_frame
      have TB0 : Hid (TopB w wq w0 P l.length [] (Maps.has (mapC P)) (Maps.size (mapC P)) (.slice none 0 0)) :=
        ⟨hrg0, World.ownsRow_nil .., by simp [keysF], (fun p hp => by cases hp), (fun k => by rw [(mapC_facts P).2.2.1]; simp [keysF]), ⟨hg0.os, hg0.tape, hg0.output, hg0.size, fun i hi => hg0.block i hi (by simp)⟩, szq.out⟩
      have S0 := Lib.hid hs0
      clear hrg0 hg0 hs0 MZ
      go_loopw [8] (fun out wr => ∃ acc left cnt, Hid (TopB w wq wr P l.length acc left cnt out)) (fun _ wr => wr.rangeLeft w.heap.size wq.heap.size)
      case atStart => exact ⟨_, _, _, TB0⟩
      case round =>
        obtain ⟨acc, left, cnt, hB⟩ := hrel
        obtain ⟨ws, hws⟩ : ∃ ws, ws = wr := ⟨wr, rfl⟩
        subst hws
        have HLA := Lib.hid hB.out.len
        obtain ⟨so, co, hout⟩ := row_slice hB.out.row
        subst hout
        go_wp2_with (first
          | (at_next; refine wpList_next_ranges _ rfl _ rfl 9 lawS (plainElem (H := Unit) Tryz.prog 3) Value.string (Value.int .i64) (fun key kl hk => by obtain ⟨s, rfl, _⟩ := keyOf_str_inv hk; exact ⟨s, rfl⟩) (fun v y hv => by obtain ⟨c, rfl, _⟩ := plainElem_int_inv Tryz.underlying3 hv; exact ⟨c, rfl⟩) w.heap.size wq.heap.size l.length (mapC P) left cnt rfl hB.out.rg ?_ ?_)
          | fail)
        · intro hc0 hl0
          have HS := Lib.hid (topB_done hB.out hl0)
          have HOC := Lib.hid (topB_ok hB.out (by rw [HPL.out]; exact HL.out))
          have RW := Lib.hid hB.out.row
          have DF : Hid (Below w.heap.size w ws) := DW.out.trans (hB.out.dn.mono DW.out.size)
          have SZF : Hid (w.heap.size + 1 ≤ wq.heap.size) := szq.out
          have HA2 : acc.length ≤ 1048576 := by have := HLA.out; rw [HPL.out] at this; have := HL.out; omega
          clear hB hl0 hc0
          have HLT : Hid (TL.length = min n.toNat acc.length) := by unfold Hid; rw [hTP.out, ← HS.out, List.length_take, srtT_len]
          obtain ⟨kk, hkk⟩ : ∃ kk : Nat, kk = min n.toNat acc.length := ⟨_, rfl⟩
          have hmx : max 0 (min n ((acc.length : Nat) : Int)) = (kk : Int) := by omega
          rw [← hkk] at HLT
          rcases RW.out.2 with ⟨hn, h0⟩ | ⟨g, cap', cur, hn, hrest⟩
          · injection hn with hn _ hcap
            subst hn hcap
            have hacc : acc = [] := List.eq_nil_of_length_eq_zero h0
            have hk0 : kk = 0 := by omega
            have hTL0 : TL = [] := List.eq_nil_of_length_eq_zero (by rw [HLT.out, hk0])
            subst hacc hk0 hTL0
            simp only [List.length_nil] at hmx
            clear hkk hTP HS HLT HLA HOC RW
            go_wp2_with fail
            refine (tsort_none _ _ _ _).mono ?_; rintro x w6 ⟨rfl, rfl⟩
            go_wp2_with fail
            rw [show (max (0 : Int) (min n 0)).toNat = 0 by omega]
            refine (tclone_nil _).mono ?_; rintro x w7 ⟨⟨v7, rfl, hown7⟩, b7⟩
            have D7 := Lib.hid (DF.out.trans (b7.mono DF.out.size))
            have O7 := Lib.hid hown7
            clear b7 hown7
            go_wp2_with fail
            go_ret
            exact ⟨⟨_, rfl, O7.out.mono DF.out.size⟩, D7.out⟩
          · injection hn with hn hlen hcap
            subst hn
            subst hcap
            have hcc : acc.length ≤ co := hrest.2.2.1
            have hkc : kk ≤ co := by omega
            have hkl : kk ≤ acc.length := by omega
            have HTL : Hid (TL = (srtT acc).take kk) := by
              unfold Hid
              rw [hTP.out, ← HS.out, hkk]
              rw [show min n.toNat acc.length = min n.toNat (srtT acc).length from by rw [srtT_len]]
              rcases Nat.le_total n.toNat (srtT acc).length with h | h
              · rw [Nat.min_eq_left h]
              · rw [Nat.min_eq_right h, List.take_of_length_le h, List.take_length]
            have HG := Lib.hid (World.ownsRow.lt RW.out g rfl)
            have SRT := Lib.hid (tsort_any (wq.heap.size + 1) g co acc ws HOC.out RW.out HA2)
            clear hrest hkk hTP HS HOC RW
            go_wp2_with fail
            refine SRT.out.mono ?_; rintro x w6 ⟨rfl, hc6, hg6, hb6⟩
            have D6 : Hid (Below w.heap.size w w6) := DF.out.trans (hb6 _ (by have := HG.out; have := SZF.out; omega))
            have G6 := Lib.hid hg6
            have C6 : Hid (∀ j u, (rowT TL)[j]? = some u → w6.cell? ⟨g, j, none⟩ = some u) := by
              intro j u hj
              have hjl : j < TL.length * 2 := by rw [← rowT_len]; exact (List.getElem?_eq_some_iff.1 hj).1
              rw [HLT.out] at hjl
              have hq : j / 2 < TL.length := by rw [HLT.out]; omega
              have hs : j / 2 < (srtT acc).length := by rw [srtT_len]; omega
              have he : TL[j / 2] = (srtT acc)[j / 2] := by
                have := HTL.out
                subst this
                rw [List.getElem_take]
              obtain ⟨e1, e2⟩ := rowT_get TL (j / 2) hq
              obtain ⟨f1, f2⟩ := hc6 (j / 2) hs
              rcases Nat.mod_two_eq_zero_or_one j with hm | hm
              · rw [show j / 2 * 2 = j by omega] at e1 f1
                rw [f1, ← he]
                rw [e1] at hj
                exact hj
              · rw [show j / 2 * 2 + 1 = j by omega] at e2 f2
                rw [f2, ← he]
                rw [e2] at hj
                exact hj
            clear hc6 hg6 hb6 SRT
            have CL := Lib.hid (tclone_any g co kk (rowT TL) w6 (by rw [rowT_len, HLT.out]) (rowT_one TL) C6.out G6.out (by omega))
            go_wp2_with fail
            all_goals (try (exfalso; omega))
            try rw [show (max (0 : Int) (min n (acc.length : Int))).toNat = kk by omega]
            refine CL.out.mono ?_; rintro x w7 ⟨⟨v7, rfl, hown7⟩, b7⟩
            have D7 := Lib.hid (D6.out.trans (b7.mono D6.out.size))
            have O7 : Hid (w7.ownsRow w6.heap.size tTl 2 v7 TL.length (rowT TL)) := by unfold Hid; rw [HLT.out]; exact hown7
            clear b7 hown7
            go_wp2_with fail
            go_ret
            exact ⟨⟨_, rfl, O7.out.mono D6.out.size⟩, D7.out⟩
        · intro x c kl yd yp w5 cnt1 hkl hleft hRc hat hrg1 hlt1 hg1 hs1 hen
          obtain ⟨s', hs', rfl⟩ := keyOf_str_inv hkl
          injection hs' with hs'
          subst hs'
          obtain ⟨c', hc', hyd, hwf⟩ := plainElem_int_inv Tryz.underlying3 hRc
          injection hc' with _ hc'
          subst hc'
          injection hyd with hyd _
          subst hyd
          have O1 : Hid (w5.ownsRow (wq.heap.size + 1) tTl 2 (.slice so acc.length co) acc.length (rowT acc)) := row_kept hB.out.row (fun g hg => hg1.block g (World.ownsRow.lt hB.out.row g hg).2 (by have := (World.ownsRow.lt hB.out.row g hg).1; intro e; injection e with e; omega))
          have S5 : Hid (wq.heap.size + 1 ≤ w5.heap.size) := by have h1 := hB.out.rg.lt; unfold Hid; omega
          have HAT := Lib.hid hat
          have HRG := Lib.hid hrg1
          have HG1 := Lib.hid hg1
          have HLE := Lib.hid hleft
          have hxb : x = bs (L x) := (bs_L x).symm
          obtain ⟨X, hX⟩ := name_it (L x)
          rw [hX.out] at hxb HAT HRG HLE
          clear hX
          subst hxb
          clear hat hrg1 hg1 hleft hRc hkl hwf hs1
          go_wp2_with (at_builtin; refine append2 rfl _ _ 53 rfl (wq.heap.size + 1) tTl i0 (.agg #[.string ⟨#[]⟩, .int .i64 0]) 24 Tryz.underlying53 hi hz0 hz1 hz2 rfl O1.out rfl (.string (bs X)) (.int .i64 c) rfl rfl rfl rfl ?_ ?_ ?_ ?_)
          · have := HLA.out; rw [HPL.out] at this; have := HL.out; unfold maxLen; omega
          · have := HLA.out; rw [HPL.out] at this; have := HL.out; omega
          · exact S5.out
          intro g6 cap6 w6 hg6 hown6 hb6
          have TB6 := Lib.hid (hB.out.step HLE.out HAT.out HRG.out HG1.out hb6 hown6)
          clear hown6 hb6
          go_wp2_with fail
          go_roundw
          case rel => exact ⟨_, _, _, TB6⟩
          case measure => rw [TB6.out.rg.left_eq, hB.out.rg.left_eq]; exact hlt1
end Go.Proofs.YtfgaiopkclogmaaGreatDoor
