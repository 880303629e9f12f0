/- Contract of the document's Told: what a content range says. -/
import Derived.Test.YtnodboggemggmaaDoorToldD
namespace Go.Proofs.YtnodboggemggmaaDoor
open Go Go.RowKit
set_option maxHeartbeats 2000000

def idxI (c : UInt8) (l : List UInt8) : Int := match idx c l with | some i => (i : Int) | none => -1
theorem idxI_nil (c : UInt8) : idxI c [] = -1 := rfl
theorem idxI_bd (c : UInt8) (l : List UInt8) : -1 ≤ idxI c l ∧ idxI c l < l.length := by
  unfold idxI
  cases h : idx c l with
  | none => exact ⟨Int.le_refl _, by show (-1 : Int) < _; omega⟩
  | some i => have := idx_lt h; exact ⟨by show (-1 : Int) ≤ (i : Int); omega, by show (i : Int) < _; omega⟩
theorem idxI_snoc (c x : UInt8) (l : List UInt8) : idxI c (l ++ [x]) = if idxI c l < 0 then (if x.toNat = c.toNat then (l.length : Int) else -1) else idxI c l := by
  have he : (x == c) = decide (x.toNat = c.toNat) := by
    rw [Bool.eq_iff_iff, decide_eq_true_eq, beq_iff_eq]; exact UInt8.toNat_inj.symm
  unfold idxI idx
  rw [List.findIdx?_append]
  cases h : List.findIdx? (· == c) l with
  | some i => rw [if_neg (by show ¬ ((i : Int) < 0); omega)]; rfl
  | none =>
    rw [if_pos (by show (-1 : Int) < 0; omega)]
    rw [List.findIdx?_cons, he]
    by_cases hx : x.toNat = c.toNat
    · rw [if_pos hx, decide_eq_true hx]; simp
    · rw [if_neg hx, decide_eq_false hx]; simp
theorem idx_take (c : UInt8) : ∀ (l : List UInt8) (i : Nat), idx c (l.take i) = (match idx c l with | none => none | some j => if j < i then some j else none)
  | [], i => by rw [List.take_nil]; rfl
  | b :: l, 0 => by
    rw [List.take_zero, idx_nil]
    cases idx c (b :: l) <;> simp
  | b :: l, i + 1 => by
    rw [List.take_succ_cons, idx_cons, idx_cons]
    by_cases hb : (b == c) = true
    · rw [if_pos hb, if_pos hb]; simp
    · rw [if_neg hb, if_neg hb, idx_take c l i]
      cases idx c l with
      | none => rfl
      | some j =>
        show Option.map (· + 1) (if j < i then some j else none) = if j + 1 < i + 1 then some (j + 1) else none
        by_cases hj : j < i
        · rw [if_pos hj, if_pos (by omega)]; rfl
        · rw [if_neg hj, if_neg (by omega)]; rfl
theorem idx_get {c : UInt8} : ∀ {l : List UInt8} {i : Nat}, idx c l = some i → l[i]? = some c
  | [], i, h => by cases h
  | b :: l, i, h => by
    rw [idx_cons] at h
    split at h
    · rename_i hb
      cases h
      rw [eq_of_beq hb]; rfl
    · cases hq : idx c l with
      | none => rw [hq] at h; cases h
      | some j =>
        rw [hq] at h
        cases h
        show (b :: l)[j + 1]? = some c
        rw [List.getElem?_cons_succ]
        exact idx_get hq
theorem told_first {r : List UInt8} {i : Nat} (h : idx 47 r = some i) : cutA 47 r = r.take i ∧ cutZ 47 r = r.drop (i + 1) ∧ (idx 47 r).isSome = true := by
  unfold cutA cutZ; rw [h]; exact ⟨rfl, rfl, rfl⟩
theorem told_dash {r : List UInt8} {i j : Nat} (h : idx 45 r = some j) (hj : j < i) : cutA 45 (r.take i) = r.take j ∧ cutZ 45 (r.take i) = (r.take i).drop (j + 1) ∧ (idx 45 (r.take i)).isSome = true := by
  have e := idx_take 45 r i
  rw [h] at e
  have e : idx 45 (r.take i) = some j := e.trans (if_pos hj)
  unfold cutA cutZ; rw [e]
  refine ⟨?_, rfl, rfl⟩
  show (r.take i).take j = _
  rw [List.take_take, Nat.min_eq_left (by omega)]
theorem told_nodash {r : List UInt8} {i : Nat} (h : idx 45 r = none ∨ ∃ j, idx 45 r = some j ∧ i ≤ j) : (idx 45 (r.take i)).isSome = false := by
  rw [idx_take]
  rcases h with h | ⟨j, h, hj⟩
  · rw [h]; rfl
  · rw [h]
    show (if j < i then some j else none).isSome = false
    rw [if_neg (by omega)]; rfl
theorem told_apart {r : List UInt8} {i j : Nat} (h : idx 45 r = some j) (h2 : idx 47 r = some i) : j ≠ i := by
  intro e
  subst e
  have := idx_get h
  rw [idx_get h2] at this
  exact absurd this (by decide)

set_option maxHeartbeats 8000000 in
set_option maxRecDepth 100000 in
theorem rtold_any (s : ByteArray) (w : World) (hs : s.size ≤ 1099511627) :
    Calls Tryd.prog 25 #[.string s] w fun e w' => e = .returned (toldV (toldM (L s))) ∧ Below w.heap.size w w' := by
  obtain ⟨V, hV⟩ := name_it (toldV (toldM (L s)))
  rw [hV.out]
  have hLs := L_length s
  have hm : Hid (V = toldV (toldM (L s))) := hV.out.symm
  clear hV
  unfold toldM at hm
  have hx6 : ((s.extract 0 6).toList == byW) = decide ((L s).take 6 = byW) := by
    rw [toList_L, extract_head, L_bs, Bool.eq_iff_iff, beq_iff_eq, decide_eq_true_eq]
  have hx7 : ((s.extract 0 6).toList != byW) = !decide ((L s).take 6 = byW) := by
    rw [bne, hx6]
  unfold byW at hx6 hx7 hm
  by_cases hp : (L s).take 6 = [98, 121, 116, 101, 115, 32]
  case neg =>
    have hv : Hid (V = toldV (0, 0, 0, 90)) := by
      unfold Hid; rw [hm.out, if_pos (Or.inl (decide_eq_false hp))]
    rw [decide_eq_false hp] at hx6 hx7
    have HP := Lib.hid hp
    clear hm hp
    go_enter Tryd.func25, Tryd.ntmps25
    go_wp2_with fail
    all_goals (try (exfalso; omega))
    all_goals
      have f1 : True := trivial
      refine bodyPost_ret (v := .tuple #[.agg #[.int .i64 0, .int .i64 0], .int .i64 0, .int .i64 90]) ?_ rfl ⟨by rw [hv.out]; rfl, ?_⟩
      · simp [results, Tryd.results25, go_sem]
      · first
        | exact (Below.refl _ _).alloc (Nat.le_refl _) _
        | exact (((Below.refl _ _).alloc (Nat.le_refl _) _).setCell (p := ⟨_, 0, none⟩) (Nat.le_refl _) _).setCell (p := ⟨_, 1, none⟩) (Nat.le_refl _) _
  case pos =>
    have hs6 : 6 ≤ s.size := by
      have := congrArg List.length hp
      rw [List.length_take] at this
      simp at this; omega
    rw [decide_eq_true hp] at hx6 hx7 hm
    have hrl : restL (L s) = (L s).drop 6 := if_pos hp
    rw [hrl] at hm
    have hcut : s.extract 6 s.size = bs ((L s).drop 6) := extract_tail s 6
    have HCUT := Lib.hid hcut
    obtain ⟨r, hr⟩ := name_it ((L s).drop 6)
    have hrn : r.length + 6 = s.size := by rw [← hr.out, List.length_drop]; omega
    rw [hr.out] at hm HCUT
    clear hcut hrl hr hp
    obtain ⟨q, hq⟩ := name_it (bs r)
    have hqL : Hid (L q = r) := by rw [← hq.out]; exact L_bs r
    have hqs : r.length = q.size := by rw [← hq.out, size_bs]
    rw [hq.out] at HCUT
    have hs47 := fun k => idxI_bd 47 (r.take k)
    have hs45 := fun k => idxI_bd 45 (r.take k)
    have hstep : Hid (∀ (c : UInt8) (k : Nat) (h : k < q.size), idxI c (r.take (k + 1)) = if idxI c (r.take k) < 0 then (if (q[k]).toNat = c.toNat then (k : Int) else -1) else idxI c (r.take k)) := by
      intro c k h
      have := idxI_snoc c (q[k]) (r.take k)
      have e : r.take (k + 1) = r.take k ++ [q[k]] := by
        have := L_take h
        rw [hqL.out] at this; exact this
      rw [e, this, List.length_take, Nat.min_eq_left (by omega)]
    clear hq
    go_enter Tryd.func25, Tryd.ntmps25
    go_wp2_with fail
    all_goals (try (exfalso; omega))
    rw [HCUT.out]
    go_loop [7, 5, 6] (fun i sl da => ∃ k : Nat, k ≤ q.size ∧ i = .int .i64 k ∧ sl = .int .i64 (idxI 47 (r.take k)) ∧ da = .int .i64 (idxI 45 (r.take k))) (fun i _ _ => q.size - (intOf i).toNat)
    case atStart => exact ⟨0, by omega, rfl, rfl, rfl⟩
    case round =>
      obtain ⟨k, hk, rfl, rfl, rfl⟩ := hrel
      by_cases hin : k < q.size
      · have b47 := hs47 k
        have b45 := hs45 k
        have n47 := hstep.out 47 k hin
        have n45 := hstep.out 45 k hin
        rw [show (47 : UInt8).toNat = 47 by decide] at n47
        rw [show (45 : UInt8).toNat = 45 by decide] at n45
        rw [List.length_take, Nat.min_eq_left (by omega)] at b47 b45
        obtain ⟨A, hA⟩ := name_it (idxI 47 (r.take k))
        obtain ⟨B, hB⟩ := name_it (idxI 45 (r.take k))
        obtain ⟨A', hA'⟩ := name_it (idxI 47 (r.take (k + 1)))
        obtain ⟨B', hB'⟩ := name_it (idxI 45 (r.take (k + 1)))
        rw [hA.out] at b47 n47 ⊢
        rw [hB.out] at b45 n45 ⊢
        rw [hA'.out] at n47
        rw [hB'.out] at n45
        clear hA hB
        by_cases h1 : ((q[k]).toNat : Int) = 47
        · have h3 : ¬ ((q[k]).toNat : Int) = 45 := by omega
          rw [if_pos (show (q[k]).toNat = 47 by omega)] at n47
          rw [if_neg (show ¬ (q[k]).toNat = 45 by omega)] at n45
          by_cases h2 : A < 0
          · rw [if_pos h2] at n47
            have e45 : B' = B := by rw [n45]; split <;> omega
            clear n45
            subst n47 e45
            go_wp2_with fail
            all_goals (try (exfalso; omega))
            go_round
            case rel => exact ⟨k + 1, by omega, by go_num, by rw [hA'.out], by rw [hB'.out]⟩
            case measure => simp [intOf]; omega
          · rw [if_neg h2] at n47
            have e45 : B' = B := by rw [n45]; split <;> omega
            clear n45
            subst n47 e45
            go_wp2_with fail
            all_goals (try (exfalso; omega))
            go_round
            case rel => exact ⟨k + 1, by omega, by go_num, by rw [hA'.out], by rw [hB'.out]⟩
            case measure => simp [intOf]; omega
        · rw [if_neg (show ¬ (q[k]).toNat = 47 by omega)] at n47
          have e47 : A' = A := by rw [n47]; split <;> omega
          clear n47
          by_cases h3 : ((q[k]).toNat : Int) = 45
          · rw [if_pos (show (q[k]).toNat = 45 by omega)] at n45
            by_cases h4 : B < 0
            · rw [if_pos h4] at n45
              subst n45 e47
              go_wp2_with fail
              all_goals (try (exfalso; omega))
              go_round
              case rel => exact ⟨k + 1, by omega, by go_num, by rw [hA'.out], by rw [hB'.out]⟩
              case measure => simp [intOf]; omega
            · rw [if_neg h4] at n45
              subst n45 e47
              go_wp2_with fail
              all_goals (try (exfalso; omega))
              go_round
              case rel => exact ⟨k + 1, by omega, by go_num, by rw [hA'.out], by rw [hB'.out]⟩
              case measure => simp [intOf]; omega
          · rw [if_neg (show ¬ (q[k]).toNat = 45 by omega)] at n45
            have e45 : B' = B := by rw [n45]; split <;> omega
            clear n45
            subst e45 e47
            go_wp2_with fail
            all_goals (try (exfalso; omega))
            go_round
            case rel => exact ⟨k + 1, by omega, by go_num, by rw [hA'.out], by rw [hB'.out]⟩
            case measure => simp [intOf]; omega
      · obtain rfl : k = q.size := by omega
        have hall : r.take q.size = r := List.take_of_length_le (by omega)
        rw [hall]
        clear hs47 hs45 hstep hall
        cases h47 : idx 47 r with
        | none =>
          have e47 : idxI 47 r = -1 := by unfold idxI; rw [h47]
          have hv : Hid (V = toldV (0, 0, 0, 90)) := by
            unfold Hid; rw [hm.out, h47, if_pos (Or.inr (show (none : Option Nat).isSome = false from rfl))]
          rw [e47]
          obtain ⟨B, hB⟩ := name_it (idxI 45 r)
          rw [hB.out]
          clear hm h47 e47 hB
          go_wp2_with fail
          all_goals (try (exfalso; omega))
          all_goals
            refine bodyPost_ret (v := .tuple #[.agg #[.int .i64 0, .int .i64 0], .int .i64 0, .int .i64 90]) ?_ rfl ⟨by rw [hv.out]; rfl, ?_⟩
            · simp [results, Tryd.results25, go_sem]
            · first
              | exact (Below.refl _ _).alloc (Nat.le_refl _) _
              | exact (((Below.refl _ _).alloc (Nat.le_refl _) _).setCell (p := ⟨_, 0, none⟩) (Nat.le_refl _) _).setCell (p := ⟨_, 1, none⟩) (Nat.le_refl _) _
        | some i =>
          have hi := idx_lt h47
          obtain ⟨t1, t2, t3⟩ := told_first h47
          have e47 : idxI 47 r = i := by unfold idxI; rw [h47]
          rw [e47]
          rw [t1, t2, t3, if_neg (by simp)] at hm
          have X1 : q.extract 0 i = bs (r.take i) := by rw [extract_head, hqL.out]
          have X2 : q.extract (i + 1) q.size = bs (r.drop (i + 1)) := by rw [extract_tail, hqL.out]
          obtain ⟨t, ht⟩ := name_it (r.drop (i + 1))
          have htn : t.length ≤ r.length := by rw [← ht.out, List.length_drop]; omega
          rw [ht.out] at hm X2
          obtain ⟨x, hx⟩ := name_it (r.take i)
          rw [hx.out] at X1 hm
          have bt := strN_bd t
          have hts : t = [42] → strB t = false := fun h => by rw [h]; exact strB_star
          obtain ⟨nt, hnt⟩ := name_it (strN t)
          obtain ⟨kt, hkt⟩ := name_it (strB t)
          rw [hnt.out] at hm bt
          rw [hkt.out] at hm hts
          have hts2 : ¬ (t = [42] ∧ kt = true) := fun h => by rw [hts h.1] at h; exact absurd h.2 (by decide)
          have e1 : (bs x).toList = x := by rw [toList_L, L_bs]
          have e2 : (bs t).toList = t := by rw [toList_L, L_bs]
          have HX1 := Lib.hid X1
          have HX2 := Lib.hid X2
          clear hts X1 X2 t1 t2 t3 e47
          by_cases hx1 : x = [42]
          · have hd0 : (idx 45 x).isSome = false := by rw [hx1]; rfl
            have x1 : ((q.extract 0 i).toList == [42]) = true := by rw [HX1.out, e1]; simp [hx1]
            obtain ⟨B, hB⟩ := name_it (idxI 45 r)
            rw [hB.out]
            cases kt
            · have hv : Hid (V = toldV (0, 0, 0, 90)) := by unfold Hid; rw [hm.out, if_neg (by simp), if_pos (Or.inl hd0)]
              clear hm hB
              go_wp2_with fail
              all_goals (try (exfalso; omega))
              rw [HX2.out]
              refine (strict_any (bs t) _ (by rw [size_bs]; unfold maxLen; omega)).mono ?_; rintro e w3 ⟨rfl, hbb⟩
              rw [L_bs, hnt.out, hkt.out]
              obtain ⟨f1, f2, f3, f4⟩ := box_facts hbb
              clear hbb
              go_wp2_with fail
              all_goals (try (exfalso; omega))
              all_goals
                refine bodyPost_ret (v := .tuple #[.agg #[.int .i64 (0), .int .i64 (0)], .int .i64 (0), .int .i64 (90)]) ?_ rfl ⟨by rw [hv.out]; rfl, ?_⟩
                · simp [results, Tryd.results25, go_sem, f1] <;> omega
                · exact (f4.setCell (p := ⟨_, 0, none⟩) (Nat.le_refl _) _).setCell (p := ⟨_, 1, none⟩) (Nat.le_refl _) _
            · have hv : Hid (V = toldV (0, 0, nt, 0)) := by unfold Hid; rw [hm.out, if_pos ⟨hx1, rfl⟩]
              clear hm hB
              go_wp2_with fail
              all_goals (try (exfalso; omega))
              rw [HX2.out]
              refine (strict_any (bs t) _ (by rw [size_bs]; unfold maxLen; omega)).mono ?_; rintro e w3 ⟨rfl, hbb⟩
              rw [L_bs, hnt.out, hkt.out]
              obtain ⟨f1, f2, f3, f4⟩ := box_facts hbb
              clear hbb
              go_wp2_with fail
              all_goals (try (exfalso; omega))
              all_goals
                refine bodyPost_ret (v := .tuple #[.agg #[.int .i64 (0), .int .i64 (0)], .int .i64 (nt), .int .i64 (0)]) ?_ rfl ⟨by rw [hv.out]; rfl, ?_⟩
                · simp [results, Tryd.results25, go_sem, f1] <;> omega
                · exact (f4.setCell (p := ⟨_, 0, none⟩) (Nat.le_refl _) _).setCell (p := ⟨_, 1, none⟩) (Nat.le_refl _) _
          · rw [if_neg (fun h => hx1 h.1)] at hm
            have x1 : ((q.extract 0 i).toList == [42]) = false := by rw [HX1.out, e1]; simp [hx1]
            have hdc : (∃ j, idx 45 r = some j ∧ j < i) ∨ ((idx 45 r = none ∨ ∃ j, idx 45 r = some j ∧ i ≤ j) ∧ (idxI 45 r < 0 ∨ (i : Int) < idxI 45 r)) := by
              cases h45 : idx 45 r with
              | none =>
                have e : idxI 45 r = -1 := by unfold idxI; rw [h45]
                exact Or.inr ⟨Or.inl rfl, Or.inl (by omega)⟩
              | some j =>
                have e : idxI 45 r = j := by unfold idxI; rw [h45]
                have := told_apart h45 h47
                by_cases hj : j < i
                · exact Or.inl ⟨j, rfl, hj⟩
                · exact Or.inr ⟨Or.inr ⟨j, rfl, by omega⟩, Or.inr (by omega)⟩
            rcases hdc with ⟨j, h45, hj⟩ | ⟨h45, hBB⟩
            · obtain ⟨d1, d2, d3⟩ := told_dash h45 hj
              rw [hx.out] at d1 d2 d3
              have e45 : idxI 45 r = j := by unfold idxI; rw [h45]
              rw [e45]
              rw [d1, d2, d3] at hm
              have Y1 : q.extract 0 j = bs (r.take j) := by rw [extract_head, hqL.out]
              have Y2 : q.extract (j + 1) i = bs (x.drop (j + 1)) := by rw [extract_bs, hqL.out, hx.out]
              obtain ⟨a, ha⟩ := name_it (r.take j)
              obtain ⟨z, hz⟩ := name_it (x.drop (j + 1))
              have han : a.length ≤ r.length := by rw [← ha.out, List.length_take]; omega
              have hzn : z.length ≤ r.length := by rw [← hz.out, ← hx.out, List.length_drop, List.length_take]; omega
              rw [ha.out] at hm Y1
              rw [hz.out] at hm Y2
              have HY1 := Lib.hid Y1
              have HY2 := Lib.hid Y2
              have ba := strN_bd a
              have bz := strN_bd z
              obtain ⟨na, hna⟩ := name_it (strN a)
              obtain ⟨nz, hnz⟩ := name_it (strN z)
              obtain ⟨ka, hka⟩ := name_it (strB a)
              obtain ⟨kz, hkz⟩ := name_it (strB z)
              rw [hna.out] at hm ba
              rw [hnz.out] at hm bz
              rw [hka.out, hkz.out] at hm
              clear Y1 Y2 d1 d2 d3 e45 ha hz h45 hx ht
              have hcases : (kt = false ∧ t ≠ [42]) ∨ ((kt = true ∨ t = [42]) ∧ ka = false) ∨ ((kt = true ∨ t = [42]) ∧ ka = true ∧ kz = false) ∨ ((kt = true ∨ t = [42]) ∧ ka = true ∧ kz = true ∧ na > nz)
                  ∨ (t ≠ [42] ∧ kt = true ∧ ka = true ∧ kz = true ∧ na ≤ nz ∧ nz ≥ nt) ∨ (t ≠ [42] ∧ kt = true ∧ ka = true ∧ kz = true ∧ na ≤ nz ∧ nz < nt) ∨ (t = [42] ∧ kt = false ∧ ka = true ∧ kz = true ∧ na ≤ nz) := by
                have o1 : na > nz ∨ na ≤ nz := by omega
                have o2 : nz ≥ nt ∨ nz < nt := by omega
                by_cases hq : t = [42] <;> cases kt <;> cases ka <;> cases kz <;> rcases o1 with o1 | o1 <;> rcases o2 with o2 | o2 <;> simp_all
              rcases hcases with ⟨h3, ht1⟩ | ⟨h33, h5⟩ | ⟨h33, h5, h6⟩ | ⟨h33, h5, h6, h7⟩ | ⟨ht1, h3, h5, h6, h7, h8⟩ | ⟨ht1, h3, h5, h6, h7, h8⟩ | ⟨ht1, h3, h5, h6, h7⟩
              · have hv : Hid (V = toldV (0, 0, 0, 90)) := by unfold Hid; rw [hm.out, if_pos (Or.inr (Or.inr (Or.inr (Or.inr ⟨ht1, Or.inl h3⟩))))]
                clear hm
                have t1 : ((q.extract (i + 1) q.size).toList == [42]) = false := by rw [HX2.out, e2]; simp [ht1]
                have t2 : ((q.extract (i + 1) q.size).toList != [42]) = true := by rw [HX2.out, e2]; simp [ht1]
                have HT1 := Lib.hid ht1
                clear ht1
                subst h3
                go_wp2_with fail
                all_goals (try (exfalso; omega))
                rw [HX2.out]
                refine (strict_any (bs t) _ (by rw [size_bs]; unfold maxLen; omega)).mono ?_; rintro e w3 ⟨rfl, hbb⟩
                rw [L_bs, hnt.out, hkt.out]
                obtain ⟨f1, f2, f3, f4⟩ := box_facts hbb
                clear hbb
                go_wp2_with fail
                all_goals (try (exfalso; omega))
                all_goals
                  refine bodyPost_ret (v := .tuple #[.agg #[.int .i64 (0), .int .i64 (0)], .int .i64 (0), .int .i64 (90)]) ?_ rfl ⟨by rw [hv.out]; rfl, ?_⟩
                  · simp [results, Tryd.results25, go_sem, f1] <;> omega
                  · exact (f4.setCell (p := ⟨_, 0, none⟩) (Nat.le_refl _) _).setCell (p := ⟨_, 1, none⟩) (Nat.le_refl _) _
              · have hv : Hid (V = toldV (0, 0, 0, 90)) := by unfold Hid; rw [hm.out, if_pos (Or.inr (Or.inl h5))]
                clear hm
                subst h5
                cases kt
                · have ht1 : t = [42] := h33.resolve_left (by decide)
                  have t1 : ((q.extract (i + 1) q.size).toList == [42]) = true := by rw [HX2.out, e2]; simp [ht1]
                  have t2 : ((q.extract (i + 1) q.size).toList != [42]) = false := by rw [HX2.out, e2]; simp [ht1]
                  have HT1 := Lib.hid ht1
                  clear ht1
                  go_wp2_with fail
                  all_goals (try (exfalso; omega))
                  rw [HX2.out]
                  refine (strict_any (bs t) _ (by rw [size_bs]; unfold maxLen; omega)).mono ?_; rintro e w3 ⟨rfl, hbb⟩
                  rw [L_bs, hnt.out, hkt.out]
                  go_wp2_with fail
                  all_goals (try (exfalso; omega))
                  rw [HY1.out]
                  refine (strict_any (bs a) _ (by rw [size_bs]; unfold maxLen; omega)).mono ?_; rintro e w4 ⟨rfl, hb4⟩
                  rw [L_bs, hna.out, hka.out]
                  have hbb := hbb.trans (hb4.mono hbb.size)
                  clear hb4
                  go_wp2_with fail
                  all_goals (try (exfalso; omega))
                  rw [HY2.out]
                  refine (strict_any (bs z) _ (by rw [size_bs]; unfold maxLen; omega)).mono ?_; rintro e w5 ⟨rfl, hb5⟩
                  rw [L_bs, hnz.out, hkz.out]
                  have hbb := hbb.trans (hb5.mono hbb.size)
                  clear hb5
                  obtain ⟨f1, f2, f3, f4⟩ := box_facts hbb
                  clear hbb
                  go_wp2_with fail
                  all_goals (try (exfalso; omega))
                  all_goals
                    refine bodyPost_ret (v := .tuple #[.agg #[.int .i64 (0), .int .i64 (0)], .int .i64 (0), .int .i64 (90)]) ?_ rfl ⟨by rw [hv.out]; rfl, ?_⟩
                    · simp [results, Tryd.results25, go_sem, f1] <;> omega
                    · exact (f4.setCell (p := ⟨_, 0, none⟩) (Nat.le_refl _) _).setCell (p := ⟨_, 1, none⟩) (Nat.le_refl _) _
                · have ht1 : t ≠ [42] := fun h => hts2 ⟨h, rfl⟩
                  have t1 : ((q.extract (i + 1) q.size).toList == [42]) = false := by rw [HX2.out, e2]; simp [ht1]
                  have t2 : ((q.extract (i + 1) q.size).toList != [42]) = true := by rw [HX2.out, e2]; simp [ht1]
                  have HT1 := Lib.hid ht1
                  clear ht1
                  go_wp2_with fail
                  all_goals (try (exfalso; omega))
                  rw [HX2.out]
                  refine (strict_any (bs t) _ (by rw [size_bs]; unfold maxLen; omega)).mono ?_; rintro e w3 ⟨rfl, hbb⟩
                  rw [L_bs, hnt.out, hkt.out]
                  go_wp2_with fail
                  all_goals (try (exfalso; omega))
                  rw [HY1.out]
                  refine (strict_any (bs a) _ (by rw [size_bs]; unfold maxLen; omega)).mono ?_; rintro e w4 ⟨rfl, hb4⟩
                  rw [L_bs, hna.out, hka.out]
                  have hbb := hbb.trans (hb4.mono hbb.size)
                  clear hb4
                  go_wp2_with fail
                  all_goals (try (exfalso; omega))
                  rw [HY2.out]
                  refine (strict_any (bs z) _ (by rw [size_bs]; unfold maxLen; omega)).mono ?_; rintro e w5 ⟨rfl, hb5⟩
                  rw [L_bs, hnz.out, hkz.out]
                  have hbb := hbb.trans (hb5.mono hbb.size)
                  clear hb5
                  obtain ⟨f1, f2, f3, f4⟩ := box_facts hbb
                  clear hbb
                  go_wp2_with fail
                  all_goals (try (exfalso; omega))
                  all_goals
                    refine bodyPost_ret (v := .tuple #[.agg #[.int .i64 (0), .int .i64 (0)], .int .i64 (0), .int .i64 (90)]) ?_ rfl ⟨by rw [hv.out]; rfl, ?_⟩
                    · simp [results, Tryd.results25, go_sem, f1] <;> omega
                    · exact (f4.setCell (p := ⟨_, 0, none⟩) (Nat.le_refl _) _).setCell (p := ⟨_, 1, none⟩) (Nat.le_refl _) _
              · have hv : Hid (V = toldV (0, 0, 0, 90)) := by unfold Hid; rw [hm.out, if_pos (Or.inr (Or.inr (Or.inl h6)))]
                clear hm
                subst h5 h6
                cases kt
                · have ht1 : t = [42] := h33.resolve_left (by decide)
                  have t1 : ((q.extract (i + 1) q.size).toList == [42]) = true := by rw [HX2.out, e2]; simp [ht1]
                  have t2 : ((q.extract (i + 1) q.size).toList != [42]) = false := by rw [HX2.out, e2]; simp [ht1]
                  have HT1 := Lib.hid ht1
                  clear ht1
                  go_wp2_with fail
                  all_goals (try (exfalso; omega))
                  rw [HX2.out]
                  refine (strict_any (bs t) _ (by rw [size_bs]; unfold maxLen; omega)).mono ?_; rintro e w3 ⟨rfl, hbb⟩
                  rw [L_bs, hnt.out, hkt.out]
                  go_wp2_with fail
                  all_goals (try (exfalso; omega))
                  rw [HY1.out]
                  refine (strict_any (bs a) _ (by rw [size_bs]; unfold maxLen; omega)).mono ?_; rintro e w4 ⟨rfl, hb4⟩
                  rw [L_bs, hna.out, hka.out]
                  have hbb := hbb.trans (hb4.mono hbb.size)
                  clear hb4
                  go_wp2_with fail
                  all_goals (try (exfalso; omega))
                  rw [HY2.out]
                  refine (strict_any (bs z) _ (by rw [size_bs]; unfold maxLen; omega)).mono ?_; rintro e w5 ⟨rfl, hb5⟩
                  rw [L_bs, hnz.out, hkz.out]
                  have hbb := hbb.trans (hb5.mono hbb.size)
                  clear hb5
                  obtain ⟨f1, f2, f3, f4⟩ := box_facts hbb
                  clear hbb
                  go_wp2_with fail
                  all_goals (try (exfalso; omega))
                  all_goals
                    refine bodyPost_ret (v := .tuple #[.agg #[.int .i64 (0), .int .i64 (0)], .int .i64 (0), .int .i64 (90)]) ?_ rfl ⟨by rw [hv.out]; rfl, ?_⟩
                    · simp [results, Tryd.results25, go_sem, f1] <;> omega
                    · exact (f4.setCell (p := ⟨_, 0, none⟩) (Nat.le_refl _) _).setCell (p := ⟨_, 1, none⟩) (Nat.le_refl _) _
                · have ht1 : t ≠ [42] := fun h => hts2 ⟨h, rfl⟩
                  have t1 : ((q.extract (i + 1) q.size).toList == [42]) = false := by rw [HX2.out, e2]; simp [ht1]
                  have t2 : ((q.extract (i + 1) q.size).toList != [42]) = true := by rw [HX2.out, e2]; simp [ht1]
                  have HT1 := Lib.hid ht1
                  clear ht1
                  go_wp2_with fail
                  all_goals (try (exfalso; omega))
                  rw [HX2.out]
                  refine (strict_any (bs t) _ (by rw [size_bs]; unfold maxLen; omega)).mono ?_; rintro e w3 ⟨rfl, hbb⟩
                  rw [L_bs, hnt.out, hkt.out]
                  go_wp2_with fail
                  all_goals (try (exfalso; omega))
                  rw [HY1.out]
                  refine (strict_any (bs a) _ (by rw [size_bs]; unfold maxLen; omega)).mono ?_; rintro e w4 ⟨rfl, hb4⟩
                  rw [L_bs, hna.out, hka.out]
                  have hbb := hbb.trans (hb4.mono hbb.size)
                  clear hb4
                  go_wp2_with fail
                  all_goals (try (exfalso; omega))
                  rw [HY2.out]
                  refine (strict_any (bs z) _ (by rw [size_bs]; unfold maxLen; omega)).mono ?_; rintro e w5 ⟨rfl, hb5⟩
                  rw [L_bs, hnz.out, hkz.out]
                  have hbb := hbb.trans (hb5.mono hbb.size)
                  clear hb5
                  obtain ⟨f1, f2, f3, f4⟩ := box_facts hbb
                  clear hbb
                  go_wp2_with fail
                  all_goals (try (exfalso; omega))
                  all_goals
                    refine bodyPost_ret (v := .tuple #[.agg #[.int .i64 (0), .int .i64 (0)], .int .i64 (0), .int .i64 (90)]) ?_ rfl ⟨by rw [hv.out]; rfl, ?_⟩
                    · simp [results, Tryd.results25, go_sem, f1] <;> omega
                    · exact (f4.setCell (p := ⟨_, 0, none⟩) (Nat.le_refl _) _).setCell (p := ⟨_, 1, none⟩) (Nat.le_refl _) _
              · have hv : Hid (V = toldV (0, 0, 0, 90)) := by unfold Hid; rw [hm.out, if_pos (Or.inr (Or.inr (Or.inr (Or.inl h7))))]
                clear hm
                subst h5 h6
                cases kt
                · have ht1 : t = [42] := h33.resolve_left (by decide)
                  have t1 : ((q.extract (i + 1) q.size).toList == [42]) = true := by rw [HX2.out, e2]; simp [ht1]
                  have t2 : ((q.extract (i + 1) q.size).toList != [42]) = false := by rw [HX2.out, e2]; simp [ht1]
                  have HT1 := Lib.hid ht1
                  clear ht1
                  go_wp2_with fail
                  all_goals (try (exfalso; omega))
                  rw [HX2.out]
                  refine (strict_any (bs t) _ (by rw [size_bs]; unfold maxLen; omega)).mono ?_; rintro e w3 ⟨rfl, hbb⟩
                  rw [L_bs, hnt.out, hkt.out]
                  go_wp2_with fail
                  all_goals (try (exfalso; omega))
                  rw [HY1.out]
                  refine (strict_any (bs a) _ (by rw [size_bs]; unfold maxLen; omega)).mono ?_; rintro e w4 ⟨rfl, hb4⟩
                  rw [L_bs, hna.out, hka.out]
                  have hbb := hbb.trans (hb4.mono hbb.size)
                  clear hb4
                  go_wp2_with fail
                  all_goals (try (exfalso; omega))
                  rw [HY2.out]
                  refine (strict_any (bs z) _ (by rw [size_bs]; unfold maxLen; omega)).mono ?_; rintro e w5 ⟨rfl, hb5⟩
                  rw [L_bs, hnz.out, hkz.out]
                  have hbb := hbb.trans (hb5.mono hbb.size)
                  clear hb5
                  obtain ⟨f1, f2, f3, f4⟩ := box_facts hbb
                  clear hbb
                  go_wp2_with fail
                  all_goals (try (exfalso; omega))
                  all_goals
                    refine bodyPost_ret (v := .tuple #[.agg #[.int .i64 (0), .int .i64 (0)], .int .i64 (0), .int .i64 (90)]) ?_ rfl ⟨by rw [hv.out]; rfl, ?_⟩
                    · simp [results, Tryd.results25, go_sem, f1] <;> omega
                    · exact (f4.setCell (p := ⟨_, 0, none⟩) (Nat.le_refl _) _).setCell (p := ⟨_, 1, none⟩) (Nat.le_refl _) _
                · have ht1 : t ≠ [42] := fun h => hts2 ⟨h, rfl⟩
                  have t1 : ((q.extract (i + 1) q.size).toList == [42]) = false := by rw [HX2.out, e2]; simp [ht1]
                  have t2 : ((q.extract (i + 1) q.size).toList != [42]) = true := by rw [HX2.out, e2]; simp [ht1]
                  have HT1 := Lib.hid ht1
                  clear ht1
                  go_wp2_with fail
                  all_goals (try (exfalso; omega))
                  rw [HX2.out]
                  refine (strict_any (bs t) _ (by rw [size_bs]; unfold maxLen; omega)).mono ?_; rintro e w3 ⟨rfl, hbb⟩
                  rw [L_bs, hnt.out, hkt.out]
                  go_wp2_with fail
                  all_goals (try (exfalso; omega))
                  rw [HY1.out]
                  refine (strict_any (bs a) _ (by rw [size_bs]; unfold maxLen; omega)).mono ?_; rintro e w4 ⟨rfl, hb4⟩
                  rw [L_bs, hna.out, hka.out]
                  have hbb := hbb.trans (hb4.mono hbb.size)
                  clear hb4
                  go_wp2_with fail
                  all_goals (try (exfalso; omega))
                  rw [HY2.out]
                  refine (strict_any (bs z) _ (by rw [size_bs]; unfold maxLen; omega)).mono ?_; rintro e w5 ⟨rfl, hb5⟩
                  rw [L_bs, hnz.out, hkz.out]
                  have hbb := hbb.trans (hb5.mono hbb.size)
                  clear hb5
                  obtain ⟨f1, f2, f3, f4⟩ := box_facts hbb
                  clear hbb
                  go_wp2_with fail
                  all_goals (try (exfalso; omega))
                  all_goals
                    refine bodyPost_ret (v := .tuple #[.agg #[.int .i64 (0), .int .i64 (0)], .int .i64 (0), .int .i64 (90)]) ?_ rfl ⟨by rw [hv.out]; rfl, ?_⟩
                    · simp [results, Tryd.results25, go_sem, f1] <;> omega
                    · exact (f4.setCell (p := ⟨_, 0, none⟩) (Nat.le_refl _) _).setCell (p := ⟨_, 1, none⟩) (Nat.le_refl _) _
              · have hv : Hid (V = toldV (0, 0, 0, 90)) := by unfold Hid; rw [hm.out, if_pos (Or.inr (Or.inr (Or.inr (Or.inr ⟨ht1, Or.inr h8⟩))))]
                clear hm
                have t1 : ((q.extract (i + 1) q.size).toList == [42]) = false := by rw [HX2.out, e2]; simp [ht1]
                have t2 : ((q.extract (i + 1) q.size).toList != [42]) = true := by rw [HX2.out, e2]; simp [ht1]
                have HT1 := Lib.hid ht1
                clear ht1
                subst h3 h5 h6
                go_wp2_with fail
                all_goals (try (exfalso; omega))
                rw [HX2.out]
                refine (strict_any (bs t) _ (by rw [size_bs]; unfold maxLen; omega)).mono ?_; rintro e w3 ⟨rfl, hbb⟩
                rw [L_bs, hnt.out, hkt.out]
                go_wp2_with fail
                all_goals (try (exfalso; omega))
                rw [HY1.out]
                refine (strict_any (bs a) _ (by rw [size_bs]; unfold maxLen; omega)).mono ?_; rintro e w4 ⟨rfl, hb4⟩
                rw [L_bs, hna.out, hka.out]
                have hbb := hbb.trans (hb4.mono hbb.size)
                clear hb4
                go_wp2_with fail
                all_goals (try (exfalso; omega))
                rw [HY2.out]
                refine (strict_any (bs z) _ (by rw [size_bs]; unfold maxLen; omega)).mono ?_; rintro e w5 ⟨rfl, hb5⟩
                rw [L_bs, hnz.out, hkz.out]
                have hbb := hbb.trans (hb5.mono hbb.size)
                clear hb5
                obtain ⟨f1, f2, f3, f4⟩ := box_facts hbb
                clear hbb
                go_wp2_with fail
                all_goals (try (exfalso; omega))
                all_goals
                  refine bodyPost_ret (v := .tuple #[.agg #[.int .i64 (0), .int .i64 (0)], .int .i64 (0), .int .i64 (90)]) ?_ rfl ⟨by rw [hv.out]; rfl, ?_⟩
                  · simp [results, Tryd.results25, go_sem, f1] <;> omega
                  · exact (f4.setCell (p := ⟨_, 0, none⟩) (Nat.le_refl _) _).setCell (p := ⟨_, 1, none⟩) (Nat.le_refl _) _
              · have hv : Hid (V = toldV (na, nz + 1, nt, 0)) := by unfold Hid; rw [hm.out, if_neg (told_ok rfl h5 h6 h7 (fun _ => ⟨h3, h8⟩)), if_neg ht1]
                clear hm
                have t1 : ((q.extract (i + 1) q.size).toList == [42]) = false := by rw [HX2.out, e2]; simp [ht1]
                have t2 : ((q.extract (i + 1) q.size).toList != [42]) = true := by rw [HX2.out, e2]; simp [ht1]
                have HT1 := Lib.hid ht1
                clear ht1
                subst h3 h5 h6
                go_wp2_with fail
                all_goals (try (exfalso; omega))
                rw [HX2.out]
                refine (strict_any (bs t) _ (by rw [size_bs]; unfold maxLen; omega)).mono ?_; rintro e w3 ⟨rfl, hbb⟩
                rw [L_bs, hnt.out, hkt.out]
                go_wp2_with fail
                all_goals (try (exfalso; omega))
                rw [HY1.out]
                refine (strict_any (bs a) _ (by rw [size_bs]; unfold maxLen; omega)).mono ?_; rintro e w4 ⟨rfl, hb4⟩
                rw [L_bs, hna.out, hka.out]
                have hbb := hbb.trans (hb4.mono hbb.size)
                clear hb4
                go_wp2_with fail
                all_goals (try (exfalso; omega))
                rw [HY2.out]
                refine (strict_any (bs z) _ (by rw [size_bs]; unfold maxLen; omega)).mono ?_; rintro e w5 ⟨rfl, hb5⟩
                rw [L_bs, hnz.out, hkz.out]
                have hbb := hbb.trans (hb5.mono hbb.size)
                clear hb5
                obtain ⟨f1, f2, f3, f4⟩ := box_facts hbb
                clear hbb
                go_wp2_with fail
                all_goals (try (exfalso; omega))
                all_goals
                  refine bodyPost_ret (v := .tuple #[.agg #[.int .i64 (na), .int .i64 (nz + 1)], .int .i64 (nt), .int .i64 (0)]) ?_ rfl ⟨by rw [hv.out]; rfl, ?_⟩
                  · simp [results, Tryd.results25, go_sem, f1] <;> omega
                  · exact (f4.setCell (p := ⟨_, 0, none⟩) (Nat.le_refl _) _).setCell (p := ⟨_, 1, none⟩) (Nat.le_refl _) _
              · have hv : Hid (V = toldV (na, nz + 1, -1, 0)) := by unfold Hid; rw [hm.out, if_neg (told_ok rfl h5 h6 h7 (fun h => absurd ht1 h)), if_pos ht1]
                clear hm
                have t1 : ((q.extract (i + 1) q.size).toList == [42]) = true := by rw [HX2.out, e2]; simp [ht1]
                have t2 : ((q.extract (i + 1) q.size).toList != [42]) = false := by rw [HX2.out, e2]; simp [ht1]
                have HT1 := Lib.hid ht1
                clear ht1
                subst h3 h5 h6
                go_wp2_with fail
                all_goals (try (exfalso; omega))
                rw [HX2.out]
                refine (strict_any (bs t) _ (by rw [size_bs]; unfold maxLen; omega)).mono ?_; rintro e w3 ⟨rfl, hbb⟩
                rw [L_bs, hnt.out, hkt.out]
                go_wp2_with fail
                all_goals (try (exfalso; omega))
                rw [HY1.out]
                refine (strict_any (bs a) _ (by rw [size_bs]; unfold maxLen; omega)).mono ?_; rintro e w4 ⟨rfl, hb4⟩
                rw [L_bs, hna.out, hka.out]
                have hbb := hbb.trans (hb4.mono hbb.size)
                clear hb4
                go_wp2_with fail
                all_goals (try (exfalso; omega))
                rw [HY2.out]
                refine (strict_any (bs z) _ (by rw [size_bs]; unfold maxLen; omega)).mono ?_; rintro e w5 ⟨rfl, hb5⟩
                rw [L_bs, hnz.out, hkz.out]
                have hbb := hbb.trans (hb5.mono hbb.size)
                clear hb5
                obtain ⟨f1, f2, f3, f4⟩ := box_facts hbb
                clear hbb
                go_wp2_with fail
                all_goals (try (exfalso; omega))
                all_goals
                  refine bodyPost_ret (v := .tuple #[.agg #[.int .i64 (na), .int .i64 (nz + 1)], .int .i64 (-1), .int .i64 (0)]) ?_ rfl ⟨by rw [hv.out]; rfl, ?_⟩
                  · simp [results, Tryd.results25, go_sem, f1] <;> omega
                  · exact (f4.setCell (p := ⟨_, 0, none⟩) (Nat.le_refl _) _).setCell (p := ⟨_, 1, none⟩) (Nat.le_refl _) _
            · have hv : Hid (V = toldV (0, 0, 0, 90)) := by
                have hd := told_nodash h45
                rw [hx.out] at hd
                unfold Hid; rw [hm.out, if_pos (Or.inl hd)]
              obtain ⟨B, hB⟩ := name_it (idxI 45 r)
              rw [hB.out] at hBB ⊢
              clear hm hB h45
              rcases hBB with hBB | hBB
              · go_wp2_with fail
                all_goals (try (exfalso; omega))
                rw [HX2.out]
                refine (strict_any (bs t) _ (by rw [size_bs]; unfold maxLen; omega)).mono ?_; rintro e w3 ⟨rfl, hbb⟩
                rw [L_bs, hnt.out, hkt.out]
                obtain ⟨f1, f2, f3, f4⟩ := box_facts hbb
                clear hbb
                go_wp2_with fail
                all_goals (try (exfalso; omega))
                all_goals
                  refine bodyPost_ret (v := .tuple #[.agg #[.int .i64 (0), .int .i64 (0)], .int .i64 (0), .int .i64 (90)]) ?_ rfl ⟨by rw [hv.out]; rfl, ?_⟩
                  · simp [results, Tryd.results25, go_sem, f1] <;> omega
                  · exact (f4.setCell (p := ⟨_, 0, none⟩) (Nat.le_refl _) _).setCell (p := ⟨_, 1, none⟩) (Nat.le_refl _) _
              · go_wp2_with fail
                all_goals (try (exfalso; omega))
                rw [HX2.out]
                refine (strict_any (bs t) _ (by rw [size_bs]; unfold maxLen; omega)).mono ?_; rintro e w3 ⟨rfl, hbb⟩
                rw [L_bs, hnt.out, hkt.out]
                obtain ⟨f1, f2, f3, f4⟩ := box_facts hbb
                clear hbb
                go_wp2_with fail
                all_goals (try (exfalso; omega))
                all_goals
                  refine bodyPost_ret (v := .tuple #[.agg #[.int .i64 (0), .int .i64 (0)], .int .i64 (0), .int .i64 (90)]) ?_ rfl ⟨by rw [hv.out]; rfl, ?_⟩
                  · simp [results, Tryd.results25, go_sem, f1] <;> omega
                  · exact (f4.setCell (p := ⟨_, 0, none⟩) (Nat.le_refl _) _).setCell (p := ⟨_, 1, none⟩) (Nat.le_refl _) _
end Go.Proofs.YtnodboggemggmaaDoor

