/- Contract of the document's Pieces (under way). -/
import Derived.Test.YtnodboggemggmaaDoorPcD
import Derived.Test.YtnodboggemggmaaDoorPcC
import Derived.Test.YtnodboggemggmaaDoorToldB
namespace Go.Proofs.YtnodboggemggmaaDoor
open Go Go.RowKit
set_option maxHeartbeats 4000000

theorem infoPieceR : (Tryd.prog.info? 113).map (fun i => (i.zero, i.size, i.bytes)) = some (some (.agg #[.string ⟨#[]⟩, .int .i64 0, .int .i64 0, .int .i64 0, .string ⟨#[]⟩]), 5, 56) := by kernel_rfl
theorem size_alloc1 (w : World) (o : Obj) : (w.alloc o).heap.size = w.heap.size + 1 := Array.size_push ..

set_option maxRecDepth 100000 in
theorem rpieces_any (mk s : ByteArray) (w : World) (hs : s.size ≤ 1048576) (hmz : mk.size ≤ 1048576) :
    Calls Tryd.prog 34 #[.string mk, .string s] w fun e w' => pcPost w w' e 113 (piecesM (L mk) (L s)) := by
  obtain ⟨RES, hRES⟩ := name_it (piecesM (L mk) (L s))
  rw [hRES.out]
  have hm : Hid (RES = piecesM (L mk) (L s)) := hRES.out.symm
  clear hRES
  unfold piecesM at hm
  have HB := Lib.hid (fun wx => ismark_any mk wx (by unfold maxLen; omega))
  cases hk : isMk (L mk)
  · rw [hk] at hm HB
    rw [if_neg (by decide)] at hm
    clear hk
    go_enter Tryd.func34, Tryd.ntmps34
    go_wp2_with fail
    refine (HB.out _).mono ?_; rintro e w1 ⟨rfl, hb1⟩
    go_wp2_with fail
    go_ret3
    rw [hm.out]
    exact ⟨_, rfl, World.ownsRow_lit w1 #[] 0 hb1.size (by unfold maxLen; omega) rfl, hb1.alloc hb1.size _⟩
  · rw [hk] at hm HB
    rw [if_pos rfl] at hm
    clear hk
    have hov : ¬ 9223372036854775807 < 4 + mk.size := by omega
    have hm2 := hm.out
    rw [L_length] at hm2
    have HM := Lib.hid hm2
    clear hm hm2
    go_enter Tryd.func34, Tryd.ntmps34
    go_wp2_with fail
    refine (HB.out _).mono ?_; rintro e w1 ⟨rfl, hb1⟩
    go_wp2_with fail
    obtain ⟨E, hEE⟩ := name_it ([13, 10, 45, 45] ++ L mk)
    have HM2 := HM.out
    rw [hEE.out] at HM2
    obtain ⟨B11, hB11⟩ := name_it ((⟨#[13, 10, 45, 45]⟩ : ByteArray) ++ mk ++ (⟨#[13, 10]⟩ : ByteArray))
    obtain ⟨B10, hB10⟩ := name_it ((⟨#[13, 10, 45, 45]⟩ : ByteArray) ++ mk ++ (⟨#[45, 45]⟩ : ByteArray) ++ (⟨#[13, 10]⟩ : ByteArray))
    have L11 : Hid (L B11 = E ++ [13, 10]) := by unfold Hid; rw [← hB11.out, ← hEE.out]; simp [L]
    have L10 : Hid (L B10 = E ++ [45, 45] ++ [13, 10]) := by unfold Hid; rw [← hB10.out, ← hEE.out]; simp [L]
    have HZ11 : Hid (B11.size = E.length + 2) := by unfold Hid; rw [← L_length, L11.out]; simp
    have HZ10 : Hid (B10.size = E.length + 4) := by unfold Hid; rw [← L_length, L10.out]; simp
    have hEl : E.length = 4 + mk.size := by rw [← hEE.out, List.length_append, L_length]; rfl
    have B11y : B11.size ≤ 1048600 := by have := HZ11.out; omega
    have B10y : B10.size ≤ 1048600 := by have := HZ10.out; omega
    clear hEl
    have HM3 := Lib.hid HM2
    clear HM HM2
    rw [hB11.out, hB10.out]
    go_loopw [7, 8, 11, 12, 13, 14, 15, 16, 17] (fun out i _ _ _ _ _ _ _ wr => ∃ (n : Nat) (acc : List Pc) (f : Nat), n ≤ s.size ∧ acc.length ≤ n ∧ s.size < f + n ∧ i = .int .i64 n ∧ Hid (PcRow wr w.heap.size 113 out acc) ∧ Below w.heap.size w wr ∧ Hid (RES = pcsM E s.size f n ((L s).drop n) acc)) (fun _ i _ _ _ _ _ _ _ _ => s.size + 1 - (intOf i).toNat)
    case atStart => exact ⟨0, [], s.size + 1, Nat.zero_le _, Nat.le_refl _, by omega, rfl, World.ownsRow_lit w1 #[] 0 hb1.size (by unfold maxLen; omega) rfl, hb1.alloc hb1.size _, HM3.out⟩
    case round =>
      obtain ⟨n, acc, f, hn, hal, hf, rfl, hL, hbr, hres⟩ := hrel
      obtain ⟨f', rfl⟩ : ∃ f', f = f' + 1 := ⟨f - 1, by omega⟩
      have hres2 := hres.out
      rw [pcsM_doc] at hres2
      obtain ⟨wq, hwq⟩ : ∃ wq, wq = wr := ⟨wr, rfl⟩
      subst hwq
      have HBR := Lib.hid hbr
      clear hbr hres
      obtain ⟨va, vc, hv⟩ := pcRow_slice hL.out
      subst hv
      obtain ⟨r, hr⟩ := name_it ((L s).drop n)
      have hrl : r.length = s.size - n := by rw [← hr.out, List.length_drop, L_length]
      have s10 := fun wx => starts_any s B10 n wx (by omega) (by omega) hn
      have c10 := fun wx => cutb_any s B10 n wx (by omega) (by omega) hn
      have s11 := fun wx => starts_any s B11 n wx (by omega) (by omega) hn
      have c11 := fun wx => cutb_any s B11 n wx (by omega) (by omega) hn
      rw [hr.out] at s10 c10 s11 c11 hres2
      rw [L10.out] at s10 c10
      rw [L11.out] at s11 c11
      obtain ⟨v10, h10⟩ := name_it (startsB r (E ++ [45, 45] ++ [13, 10]))
      obtain ⟨u10, g10⟩ := name_it (cutB r (E ++ [45, 45] ++ [13, 10]))
      obtain ⟨u11, g11⟩ := name_it (cutB r (E ++ [13, 10]))
      have hSl : startsB r (E ++ [13, 10]) = true → n + (E.length + 2) ≤ s.size := by
        intro hS
        have h1 := congrArg List.length (show r.take (E ++ [13, 10]).length = E ++ [13, 10] from by unfold startsB at hS; exact of_decide_eq_true hS)
        rw [List.length_take, List.length_append] at h1
        simp only [List.length_cons, List.length_nil] at h1
        omega
      obtain ⟨v11, h11⟩ := name_it (startsB r (E ++ [13, 10]))
      rw [h10.out] at s10 hres2
      rw [g10.out] at c10 hres2
      rw [h11.out] at s11 hres2 hSl
      rw [g11.out] at c11 hres2
      have hsl10 : v10 = true → r.length < E.length + 4 → False := by
        intro hv hl
        have h1 := h10.out
        rw [hv] at h1
        have h2 := congrArg List.length (show r.take (E ++ [45, 45] ++ [13, 10]).length = E ++ [45, 45] ++ [13, 10] from by unfold startsB at h1; exact of_decide_eq_true h1)
        rw [List.length_take, List.length_append, List.length_append] at h2
        simp only [List.length_cons, List.length_nil] at h2
        omega
      have S10 := Lib.hid s10
      have C10 := Lib.hid c10
      have S11 := Lib.hid s11
      have C11 := Lib.hid c11
      clear s10 c10 s11 c11 h10 g10 g11 h11
      have hd1 : r.drop (E.length + 2) = (L s).drop (n + (E.length + 2)) := by rw [← hr.out, List.drop_drop]
      have hd2 : ∀ u, r.drop (E.length + 2 + u) = (L s).drop (n + (E.length + 2) + u) := by intro u; rw [← hr.out, List.drop_drop, Nat.add_assoc n]
      rw [hd1] at hres2
      have hres3 : Hid (RES = if acc ≠ [] ∧ v10 = true then (if E.length + 4 < r.length then (([] : List Pc), ((n + (E.length + 4) : Nat) : Int), (92 : Int)) else (acc, 0, 0))
        else if u11 = true ∨ (acc ≠ [] ∧ u10 = true) then ([], s.size, 94)
        else if v11 = false then ([], n, 92)
        else match partM s.size (n + (E.length + 2)) ((L s).drop (n + (E.length + 2))) with
          | .stop a e => ([], a, e)
          | .go p u => pcsM E s.size f' (n + (E.length + 2) + u) ((L s).drop (n + (E.length + 2) + u)) (acc ++ [p])) := by
        unfold Hid
        rw [hres2]
        simp only [hd2]
        generalize partM s.size (n + (E.length + 2)) (List.drop (n + (E.length + 2)) (L s)) = Vx
        cases Vx <;> rfl
      clear hres2 hd1 hd2
      by_cases hS10 : acc ≠ [] ∧ v10 = true
      · obtain ⟨hacc, rfl⟩ := hS10
        have hc : 0 < acc.length := List.length_pos_iff.2 hacc
        have hge : ¬ r.length < E.length + 4 := fun h => hsl10 rfl h
        have hi10 := HZ10.out
        by_cases hlong : E.length + 4 < r.length
        · have hz : Hid (RES = (([] : List Pc), ((n + (E.length + 4) : Nat) : Int), (92 : Int))) := by
            unfold Hid; rw [hres3.out, if_pos ⟨hacc, rfl⟩, if_pos hlong]
          have hlong2 : n + B10.size < s.size := by omega
          have hne : Hid ((n : Int) + (B10.size : Int) = ((n + (E.length + 4) : Nat) : Int)) := by unfold Hid; omega
          clear hres3 hsl10 hSl hge hlong hrl hi10 hr
          go_wp2_with fail
          refine (S10.out _).mono ?_; rintro e w6 ⟨rfl, hb6⟩
          go_wp2_with fail
          all_goals (try (exfalso; omega))
          have d6 := HBR.out.trans (hb6.mono HBR.out.size)
          rw [hne.out]
          go_ret3
          rw [hz.out]
          exact ⟨_, rfl, World.ownsRow_lit _ #[] 0 d6.size (by unfold maxLen; omega) rfl, d6.alloc d6.size _⟩
        · have hz : Hid (RES = (acc, 0, 0)) := by
            unfold Hid; rw [hres3.out, if_pos ⟨hacc, rfl⟩, if_neg hlong]
          have hlong2 : ¬ n + B10.size < s.size := by omega
          clear hres3 hsl10 hSl hge hlong hrl hi10 hr
          go_wp2_with fail
          refine (S10.out _).mono ?_; rintro e w6 ⟨rfl, hb6⟩
          go_wp2_with fail
          all_goals (try (exfalso; omega))
          go_ret3
          rw [hz.out]
          exact ⟨_, rfl, own_keep hL.out hb6 (Nat.le_refl _), HBR.out.trans (hb6.mono HBR.out.size)⟩
      · have hn10 : acc ≠ [] → v10 = false := fun h => by cases v10 with | false => rfl | true => exact absurd ⟨h, rfl⟩ hS10
        have hres4 : Hid (RES = if u11 = true ∨ (acc ≠ [] ∧ u10 = true) then (([] : List Pc), (s.size : Int), (94 : Int))
          else if v11 = false then (([] : List Pc), (n : Int), (92 : Int))
          else match partM s.size (n + (E.length + 2)) ((L s).drop (n + (E.length + 2))) with
            | .stop a e => ([], a, e)
            | .go p u => pcsM E s.size f' (n + (E.length + 2) + u) ((L s).drop (n + (E.length + 2) + u)) (acc ++ [p])) := by
          unfold Hid; rw [hres3.out, if_neg hS10]
        clear hres3 hS10 hsl10 hrl hr
        by_cases hC : u11 = true ∨ (acc ≠ [] ∧ u10 = true)
        · have hz : Hid (RES = (([] : List Pc), (s.size : Int), (94 : Int))) := by unfold Hid; rw [hres4.out, if_pos hC]
          clear hres4 hSl
          by_cases hacc : acc = []
          · have hl0 : ¬ 0 < acc.length := by rw [hacc]; exact Nat.lt_irrefl 0
            have hu : u11 = true := by
              rcases hC with h | h
              · exact h
              · exact absurd hacc h.1
            subst hu
            clear hC hn10
            go_wp2_with fail
            refine (C11.out _).mono ?_; rintro e w7 ⟨rfl, hb7⟩
            go_wp2_with fail
            have d7 := HBR.out.trans (hb7.mono HBR.out.size)
            go_ret3
            rw [hz.out]
            exact ⟨_, rfl, World.ownsRow_lit _ #[] 0 d7.size (by unfold maxLen; omega) rfl, d7.alloc d7.size _⟩
          · have hc : 0 < acc.length := List.length_pos_iff.2 hacc
            have hv := hn10 hacc
            subst hv
            clear hn10
            cases u11 with
            | true =>
              clear hC
              go_wp2_with fail
              refine (S10.out _).mono ?_; rintro e w6 ⟨rfl, hb6⟩
              go_wp2_with fail
              refine (C11.out _).mono ?_; rintro e w7 ⟨rfl, hb7⟩
              go_wp2_with fail
              have d6 := HBR.out.trans (hb6.mono HBR.out.size)
              have d7 := d6.trans (hb7.mono d6.size)
              go_ret3
              rw [hz.out]
              exact ⟨_, rfl, World.ownsRow_lit _ #[] 0 d7.size (by unfold maxLen; omega) rfl, d7.alloc d7.size _⟩
            | false =>
              have hu : u10 = true := by
                rcases hC with h | h
                · exact absurd h (by decide)
                · exact h.2
              subst hu
              clear hC
              go_wp2_with fail
              refine (S10.out _).mono ?_; rintro e w6 ⟨rfl, hb6⟩
              go_wp2_with fail
              refine (C11.out _).mono ?_; rintro e w7 ⟨rfl, hb7⟩
              go_wp2_with fail
              refine (C10.out _).mono ?_; rintro e w8 ⟨rfl, hb8⟩
              go_wp2_with fail
              have d6 := HBR.out.trans (hb6.mono HBR.out.size)
              have d7 := d6.trans (hb7.mono d6.size)
              have d8 := d7.trans (hb8.mono d7.size)
              go_ret3
              rw [hz.out]
              exact ⟨_, rfl, World.ownsRow_lit _ #[] 0 d8.size (by unfold maxLen; omega) rfl, d8.alloc d8.size _⟩
        · have hu11 : u11 = false := by cases u11 with | false => rfl | true => exact absurd (Or.inl rfl) hC
          subst hu11
          have hn10c : acc ≠ [] → u10 = false := fun h => by cases u10 with | false => rfl | true => exact absurd (Or.inr ⟨h, rfl⟩) hC
          have hres5 : Hid (RES = if v11 = false then (([] : List Pc), (n : Int), (92 : Int))
            else match partM s.size (n + (E.length + 2)) ((L s).drop (n + (E.length + 2))) with
              | .stop a e => ([], a, e)
              | .go p u => pcsM E s.size f' (n + (E.length + 2) + u) ((L s).drop (n + (E.length + 2) + u)) (acc ++ [p])) := by
            unfold Hid; rw [hres4.out, if_neg hC]
          clear hres4 hC
          cases v11 with
          | false =>
            have hz : Hid (RES = (([] : List Pc), (n : Int), (92 : Int))) := by unfold Hid; rw [hres5.out, if_pos rfl]
            clear hres5 hSl
            by_cases hacc : acc = []
            · have hl0 : ¬ 0 < acc.length := by rw [hacc]; exact Nat.lt_irrefl 0
              clear hn10 hn10c
              go_wp2_with fail
              refine (C11.out _).mono ?_; rintro e w7 ⟨rfl, hb7⟩
              go_wp2_with fail
              refine (S11.out _).mono ?_; rintro e w9 ⟨rfl, hb9⟩
              go_wp2_with fail
              have d7 := HBR.out.trans (hb7.mono HBR.out.size)
              have d9 := d7.trans (hb9.mono d7.size)
              go_ret3
              rw [hz.out]
              exact ⟨_, rfl, World.ownsRow_lit _ #[] 0 d9.size (by unfold maxLen; omega) rfl, d9.alloc d9.size _⟩
            · have hc : 0 < acc.length := List.length_pos_iff.2 hacc
              have hv := hn10 hacc
              have hu := hn10c hacc
              subst hv hu
              clear hn10 hn10c
              go_wp2_with fail
              refine (S10.out _).mono ?_; rintro e w6 ⟨rfl, hb6⟩
              go_wp2_with fail
              refine (C11.out _).mono ?_; rintro e w7 ⟨rfl, hb7⟩
              go_wp2_with fail
              refine (C10.out _).mono ?_; rintro e w8 ⟨rfl, hb8⟩
              go_wp2_with fail
              refine (S11.out _).mono ?_; rintro e w9 ⟨rfl, hb9⟩
              go_wp2_with fail
              have d6 := HBR.out.trans (hb6.mono HBR.out.size)
              have d7 := d6.trans (hb7.mono d6.size)
              have d8 := d7.trans (hb8.mono d7.size)
              have d9 := d8.trans (hb9.mono d8.size)
              go_ret3
              rw [hz.out]
              exact ⟨_, rfl, World.ownsRow_lit _ #[] 0 d9.size (by unfold maxLen; omega) rfl, d9.alloc d9.size _⟩
          | true =>
            have hn1 := hSl rfl
            clear hSl
            obtain ⟨n1, hn1e⟩ : ∃ n1 : Nat, n1 = n + (E.length + 2) := ⟨_, rfl⟩
            have HI : Hid ((n : Int) + (B11.size : Int) = (n1 : Int)) := by have := HZ11.out; unfold Hid; omega
            have hres6 : Hid (RES = match partM s.size n1 ((L s).drop n1) with
                | .stop a e => (([] : List Pc), a, e)
                | .go p u => pcsM E s.size f' (n1 + u) ((L s).drop (n1 + u)) (acc ++ [p])) := by
              unfold Hid; rw [hres5.out, if_neg (by decide), hn1e]
            clear hres5
            rw [← hn1e] at hn1
            have hn1n : n < n1 := by omega
            clear hn1e
            obtain ⟨V, hV⟩ := name_it (partM s.size n1 ((L s).drop n1))
            rw [hV.out] at hres6
            have hm : Hid (V = partM s.size n1 ((L s).drop n1)) := hV.out.symm
            clear hV
            by_cases hacc : acc = []
            · have hl0 : ¬ 0 < acc.length := by rw [hacc]; exact Nat.lt_irrefl 0
              have hc0 : acc.length ≤ n := hal
              clear hn10 hn10c hacc
              go_wp2_with fail
              refine (C11.out _).mono ?_; rintro e w7 ⟨rfl, hb7⟩
              go_wp2_with fail
              refine (S11.out _).mono ?_; rintro e w9 ⟨rfl, hb9⟩
              go_wp2_with fail
              have Q9 := Lib.hid (hb7.trans (hb9.mono hb7.size))
              clear hb7 hb9
              rw [HI.out]
              have D9 := Lib.hid (HBR.out.trans (Q9.out.mono HBR.out.size))
              have L9 : Hid (PcRow w9 w.heap.size 113 (.slice va acc.length vc) acc) := own_keep hL.out Q9.out (Nat.le_refl _)
              clear Q9 HBR hL
              have hc1 := fun wx => rline_any s ⟨#[67, 111, 110, 116, 101, 110, 116, 45, 84, 121, 112, 101]⟩ ⟨#[67, 111, 110, 116, 101, 110, 116, 45, 84, 121, 112, 101, 58, 32]⟩ n1 wx (by omega) rfl (by decide) (by decide) hn1
              rw [L_media] at hc1
              unfold partM at hm
              cases h1 : lineM mediaL ((L s).drop n1) with
              | short =>
                rw [h1] at hc1 hm
                simp only [rlineV] at hm hc1
                have hz : Hid (RES = (([] : List Pc), (s.size : Int), (94 : Int))) := by unfold Hid; have := hres6.out; rw [hm.out] at this; exact this
                have LN1 := Lib.hid hc1
                clear hc1 h1 hm hres6
                refine (LN1.out _).mono ?_; rintro e w10 ⟨rfl, hb10⟩
                go_wp2_with fail
                have d10 := D9.out.trans (hb10.mono D9.out.size)
                go_ret3
                rw [hz.out]
                exact ⟨_, rfl, World.ownsRow_lit _ #[] 0 d10.size (by unfold maxLen; omega) rfl, d10.alloc d10.size _⟩
              | bad =>
                rw [h1] at hc1 hm
                simp only [rlineV] at hm hc1
                have hz : Hid (RES = (([] : List Pc), (n1 : Int), (93 : Int))) := by unfold Hid; have := hres6.out; rw [hm.out] at this; exact this
                have LN1 := Lib.hid hc1
                clear hc1 h1 hm hres6
                refine (LN1.out _).mono ?_; rintro e w10 ⟨rfl, hb10⟩
                go_wp2_with fail
                have d10 := D9.out.trans (hb10.mono D9.out.size)
                go_ret3
                rw [hz.out]
                exact ⟨_, rfl, World.ownsRow_lit _ #[] 0 d10.size (by unfold maxLen; omega) rfl, d10.alloc d10.size _⟩
              | val k =>
                rw [h1] at hc1 hm
                simp only [rlineV] at hm hc1
                obtain ⟨hk1, -⟩ := lineM_val h1
                have hkl := congrArg List.length hk1
                simp only [List.length_append, List.length_drop, L_length, List.length_cons, List.length_nil, show mediaL.length = 14 from rfl] at hkl
                obtain ⟨n2, hn2⟩ : ∃ n2 : Nat, n2 = n1 + (14 + k.length + 2) := ⟨_, rfl⟩
                have hn2s : n2 ≤ s.size := by omega
                have hz2 : ((n1 : Int) + (((⟨#[67, 111, 110, 116, 101, 110, 116, 45, 84, 121, 112, 101, 58, 32]⟩ : ByteArray).size : Nat) : Int) + (k.length : Int) + 2) = (n2 : Int) := by show (n1 : Int) + 14 + (k.length : Int) + 2 = _; omega
                rw [hz2] at hc1
                obtain ⟨kb, hkb⟩ := name_it (bs k)
                rw [hkb.out] at hc1
                rw [List.drop_drop, ← hn2] at hm
                have LN1 := Lib.hid hc1
                have HN2 := Lib.hid hn2
                have hn12 : n1 ≤ n2 := by omega
                clear hc1 hz2 hkl hk1 h1 hn2
                refine (LN1.out _).mono ?_; rintro e w10 ⟨rfl, hb10⟩
                go_wp2_with fail
                have D10 := Lib.hid (D9.out.trans (hb10.mono D9.out.size))
                have L10r : Hid (PcRow w10 w.heap.size 113 (.slice va acc.length vc) acc) := own_keep L9.out hb10 (Nat.le_refl _)
                clear hb10 D9 L9 LN1
                have hc2 := fun wx => rline_any s ⟨#[67, 111, 110, 116, 101, 110, 116, 45, 82, 97, 110, 103, 101]⟩ ⟨#[67, 111, 110, 116, 101, 110, 116, 45, 82, 97, 110, 103, 101, 58, 32]⟩ n2 wx (by omega) rfl (by decide) (by decide) hn2s
                rw [L_ranged] at hc2
                cases h2 : lineM rangedL ((L s).drop n2) with
                | short =>
                  rw [h2] at hc2 hm
                  simp only [rlineV] at hm hc2
                  have hz : Hid (RES = (([] : List Pc), (s.size : Int), (94 : Int))) := by unfold Hid; have := hres6.out; rw [hm.out] at this; exact this
                  have LN2 := Lib.hid hc2
                  clear hc2 h2 hm hres6
                  refine (LN2.out _).mono ?_; rintro e w11 ⟨rfl, hb11⟩
                  go_wp2_with fail
                  have d11 := D10.out.trans (hb11.mono D10.out.size)
                  go_ret3
                  rw [hz.out]
                  exact ⟨_, rfl, World.ownsRow_lit _ #[] 0 d11.size (by unfold maxLen; omega) rfl, d11.alloc d11.size _⟩
                | bad =>
                  rw [h2] at hc2 hm
                  simp only [rlineV] at hm hc2
                  have hz : Hid (RES = (([] : List Pc), (n2 : Int), (93 : Int))) := by unfold Hid; have := hres6.out; rw [hm.out] at this; exact this
                  have LN2 := Lib.hid hc2
                  clear hc2 h2 hm hres6
                  refine (LN2.out _).mono ?_; rintro e w11 ⟨rfl, hb11⟩
                  go_wp2_with fail
                  have d11 := D10.out.trans (hb11.mono D10.out.size)
                  go_ret3
                  rw [hz.out]
                  exact ⟨_, rfl, World.ownsRow_lit _ #[] 0 d11.size (by unfold maxLen; omega) rfl, d11.alloc d11.size _⟩
                | val t =>
                  rw [h2] at hc2 hm
                  simp only [rlineV] at hm hc2
                  obtain ⟨ht1, -⟩ := lineM_val h2
                  have hn2 := HN2.out
                  have htl := congrArg List.length ht1
                  simp only [List.length_append, List.length_drop, L_length, List.length_cons, List.length_nil, show rangedL.length = 15 from rfl] at htl
                  obtain ⟨n3, hn3⟩ : ∃ n3 : Nat, n3 = n2 + (15 + t.length + 2) := ⟨_, rfl⟩
                  have hz3 : ((n2 : Int) + (((⟨#[67, 111, 110, 116, 101, 110, 116, 45, 82, 97, 110, 103, 101, 58, 32]⟩ : ByteArray).size : Nat) : Int) + (t.length : Int) + 2) = (n3 : Int) := by show (n2 : Int) + 15 + (t.length : Int) + 2 = _; omega
                  rw [hz3] at hc2
                  obtain ⟨tb, htb⟩ := name_it (bs t)
                  rw [htb.out] at hc2
                  have hts : tb.size = t.length := by rw [← htb.out, size_bs]
                  have htz : tb.size ≤ s.size := by omega
                  have hn3s : n3 ≤ s.size := by omega
                  have e2 : n1 + (14 + k.length + 2 + (15 + t.length + 2)) = n3 := by omega
                  have e3 : n1 + (14 + k.length + 2 + (15 + t.length + 2) + 2) = n3 + 2 := by omega
                  have hun : 14 + k.length + 2 + (15 + t.length + 2) + 2 = n3 + 2 - n1 := by omega
                  rw [List.drop_drop, List.drop_drop, e2, e3, hun] at hm
                  have hn13 : n1 ≤ n3 := by omega
                  have htold := fun wx => rtold_any tb wx (by omega)
                  rw [show L tb = t by rw [← htb.out, L_bs]] at htold
                  have bd := toldM_bd t
                  obtain ⟨q, hq⟩ := name_it (toldM t)
                  rw [hq.out] at hm htold bd
                  obtain ⟨a, b, z, e⟩ := q
                  unfold toldV at htold
                  simp only [] at htold hm
                  have TOLD := Lib.hid htold
                  have LN2 := Lib.hid hc2
                  obtain ⟨be, ba0, ba1, bb0, bb1, bz0, bz1, bab⟩ := bd
                  simp only [] at be ba0 ba1 bb0 bb1 bz0 bz1 bab
                  clear htl ht1 hts e2 e3 hun hn2 hn3 hz3 htold hq hc2 h2 HN2
                  refine (LN2.out _).mono ?_; rintro e w11 ⟨rfl, hb11⟩
                  go_wp2_with fail
                  have D11 := Lib.hid (D10.out.trans (hb11.mono D10.out.size))
                  have L11r : Hid (PcRow w11 w.heap.size 113 (.slice va acc.length vc) acc) := own_keep L10r.out hb11 (Nat.le_refl _)
                  clear hb11 D10 L10r LN2
                  refine (TOLD.out _).mono ?_; rintro e w12 ⟨rfl, hb12⟩
                  have D12 := Lib.hid (D11.out.trans (hb12.mono D11.out.size))
                  have L12 : Hid (PcRow w12 w.heap.size 113 (.slice va acc.length vc) acc) := own_keep L11r.out hb12 (Nat.le_refl _)
                  clear hb12 D11 L11r TOLD
                  have X12 := Lib.hid (XBox.new w12 a b 34)
                  have DX := Lib.hid (D12.out.alloc D12.out.size (.cells #[.int .i64 a, .int .i64 b] 34))
                  have LX : Hid (PcRow (w12.alloc (.cells #[.int .i64 a, .int .i64 b] 34)) w.heap.size 113 (.slice va acc.length vc) acc) := L12.out.alloc _
                  have V12 : Hid (∀ j, (Value.slice va acc.length vc).ownBlock = some j → j < w12.heap.size) := fun j hj => (World.ownsRow.lt L12.out j hj).2
                  have x0 := X12.out.c0
                  have x1 := X12.out.c1
                  rcases be with rfl | rfl
                  case inr =>
                    have hz : Hid (RES = (([] : List Pc), (n2 : Int), (93 : Int))) := by unfold Hid; have := hres6.out; rw [hm.out, if_pos (Or.inl (by decide))] at this; exact this
                    clear hm hres6
                    go_wp2_with fail
                    have t1 := World.ownsRow_lit (base := w.heap.size) (size := 5) (e := 113) _ #[] 0 DX.out.size (by unfold maxLen; omega) rfl
                    rw [size_alloc1] at t1
                    have t2 := DX.out.alloc DX.out.size (.cells #[] 113)
                    go_ret3
                    rw [hz.out]
                    exact ⟨_, rfl, t1, t2⟩
                  case inl =>
                    by_cases hb0 : b = 0
                    · have ha0 : a = 0 := by
                        by_cases h : a = 0
                        · exact h
                        · have := bab (fun hh => h hh.1)
                          omega
                      subst hb0 ha0
                      have hz : Hid (RES = (([] : List Pc), (n2 : Int), (93 : Int))) := by unfold Hid; have := hres6.out; rw [hm.out, if_pos (Or.inr ⟨rfl, rfl⟩)] at this; exact this
                      clear hm hres6 bab
                      go_wp2_with fail
                      have t1 := World.ownsRow_lit (base := w.heap.size) (size := 5) (e := 113) _ #[] 0 DX.out.size (by unfold maxLen; omega) rfl
                      rw [size_alloc1] at t1
                      have t2 := DX.out.alloc DX.out.size (.cells #[] 113)
                      go_ret3
                      rw [hz.out]
                      exact ⟨_, rfl, t1, t2⟩
                    · have hab := bab (fun hh => hb0 hh.2)
                      have hm2 : Hid (V = if startsB (List.drop n3 (L s)) [13, 10] = true then
                          if ((List.drop (n3 + 2) (L s)).length : Int) < b - a then PartR.stop s.size 94
                          else .go ⟨k, a, b, z, ((L s).drop (n3 + 2)).take (b - a).toNat⟩ (n3 + 2 - n1 + (b - a).toNat)
                        else if cutB (List.drop n3 (L s)) [13, 10] = true then .stop s.size 94 else .stop (n3 : Nat) 93) := by
                        unfold Hid
                        rw [hm.out, if_neg]
                        rintro (h | h)
                        · exact h rfl
                        · exact hb0 h.2
                      clear hm bab
                      have hk1 := fun wx => cutb_any s ⟨#[13, 10]⟩ n3 wx (by omega) (by decide) hn3s
                      have hk2 := fun wx => starts_any s ⟨#[13, 10]⟩ n3 wx (by omega) (by decide) hn3s
                      rw [show L (⟨#[13, 10]⟩ : ByteArray) = [13, 10] from rfl] at hk1 hk2
                      obtain ⟨r3, hr3⟩ := name_it ((L s).drop n3)
                      have hr3l : r3.length = s.size - n3 := by rw [← hr3.out, List.length_drop, L_length]
                      rw [hr3.out] at hk1 hk2 hm2
                      cases hst : startsB r3 [13, 10] with
                      | false =>
                        rw [hst] at hk2 hm2
                        rw [if_neg (by decide)] at hm2
                        have K2 := Lib.hid hk2
                        cases hcu : cutB r3 [13, 10] with
                        | true =>
                          rw [hcu] at hk1 hm2
                          rw [if_pos rfl] at hm2
                          have K1 := Lib.hid hk1
                          have hz : Hid (RES = (([] : List Pc), (s.size : Int), (94 : Int))) := by unfold Hid; have := hres6.out; rw [hm2.out] at this; exact this
                          clear hk1 hk2 hst hcu hm2 hres6 hr3l hr3
                          go_wp2_with fail
                          refine (K1.out _).mono ?_; rintro e w13 ⟨rfl, hb13⟩
                          go_wp2_with fail
                          have d13 := DX.out.trans (hb13.mono DX.out.size)
                          go_ret3
                          rw [hz.out]
                          exact ⟨_, rfl, World.ownsRow_lit _ #[] 0 d13.size (by unfold maxLen; omega) rfl, d13.alloc d13.size _⟩
                        | false =>
                          rw [hcu] at hk1 hm2
                          rw [if_neg (by decide)] at hm2
                          have K1 := Lib.hid hk1
                          have hz : Hid (RES = (([] : List Pc), (n3 : Int), (93 : Int))) := by unfold Hid; have := hres6.out; rw [hm2.out] at this; exact this
                          clear hk1 hk2 hst hcu hm2 hres6 hr3l hr3
                          go_wp2_with fail
                          refine (K1.out _).mono ?_; rintro e w13 ⟨rfl, hb13⟩
                          go_wp2_with fail
                          refine (K2.out _).mono ?_; rintro e w14 ⟨rfl, hb14⟩
                          go_wp2_with fail
                          have d13 := DX.out.trans (hb13.mono DX.out.size)
                          have d14 := d13.trans (hb14.mono d13.size)
                          go_ret3
                          rw [hz.out]
                          exact ⟨_, rfl, World.ownsRow_lit _ #[] 0 d14.size (by unfold maxLen; omega) rfl, d14.alloc d14.size _⟩
                      | true =>
                        rw [starts_not_cut hst] at hk1
                        have hN : n3 + 2 ≤ s.size := by
                          have h := of_decide_eq_true hst
                          have h1 := congrArg List.length h
                          rw [List.length_take] at h1
                          simp only [List.length_cons, List.length_nil] at h1
                          omega
                        rw [hst] at hk2 hm2
                        rw [if_pos rfl] at hm2
                        have K1 := Lib.hid hk1
                        have K2 := Lib.hid hk2
                        clear hk1 hk2 hst hr3l hr3
                        go_wp2_with fail
                        refine (K1.out _).mono ?_; rintro e w13 ⟨rfl, hb13⟩
                        go_wp2_with fail
                        refine (K2.out _).mono ?_; rintro e w14 ⟨rfl, hb14⟩
                        have b134 := hb13.trans (hb14.mono hb13.size)
                        have D14 := Lib.hid (DX.out.trans (b134.mono DX.out.size))
                        have L14 : Hid (PcRow w14 w.heap.size 113 (.slice va acc.length vc) acc) := own_keep LX.out b134 (Nat.le_refl _)
                        have X14 := Lib.hid (X12.out.next b134 X12.out.lt)
                        clear hb13 hb14 b134 DX LX X12 x0 x1 K1 K2
                        obtain ⟨gx, hgx⟩ := name_it w12.heap.size
                        rw [hgx.out] at X14 V12
                        rw [hgx.out]
                        obtain ⟨n4, hn4⟩ : ∃ n4 : Nat, n4 = n3 + 2 := ⟨_, rfl⟩
                        rw [← hn4] at hN hm2
                        have hn14 : n1 ≤ n4 := by omega
                        have hn4i : Hid ((n3 : Int) + 2 = (n4 : Int)) := by unfold Hid; omega
                        have hMl : (List.drop n4 (L s)).length = s.size - n4 := by rw [List.length_drop, L_length]
                        rw [hMl] at hm2
                        have x0 := X14.out.c0
                        have x1 := X14.out.c1
                        have hgw : Hid (w.heap.size ≤ gx) := by rw [← hgx.out]; exact D12.out.size
                        clear hgx D12 L12
                        by_cases hlt : (s.size : Int) - ((n3 : Int) + 2) < b - a
                        · have hz : Hid (RES = (([] : List Pc), (s.size : Int), (94 : Int))) := by
                            unfold Hid; have := hres6.out; rw [hm2.out, if_pos (by omega)] at this; exact this
                          clear hm2 hres6 hMl hn4
                          go_wp2_with fail
                          go_ret3
                          rw [hz.out]
                          exact ⟨_, rfl, World.ownsRow_lit _ #[] 0 D14.out.size (by unfold maxLen; omega) rfl, D14.out.alloc D14.out.size _⟩
                        · obtain ⟨m, hmm⟩ : ∃ m : Nat, (m : Int) = b - a := ⟨(b - a).toNat, by omega⟩
                          have hmt : (b - a).toNat = m := by omega
                          have hz : Hid (RES = pcsM E s.size f' (n1 + (n4 - n1 + m)) ((L s).drop (n1 + (n4 - n1 + m))) (acc ++ [⟨k, a, b, z, ((L s).drop n4).take m⟩])) := by
                            unfold Hid; have := hres6.out; rw [hm2.out, if_neg (by omega), hmt] at this; exact this
                          have HMM := Lib.hid hmm
                          have hmn : n4 + m ≤ s.size := by omega
                          clear hm2 hres6 hMl hn4 hmt
                          go_wp2_with fail
                          rw [hn4i.out]
                          have hmm := HMM.out
                          obtain ⟨n5, hn5⟩ : ∃ n5 : Nat, n5 = n4 + m := ⟨_, rfl⟩
                          have q1 : (0 : Int) ≤ (n4 : Int) := by omega
                          have q2 : (n4 : Int) ≤ (n5 : Int) := by omega
                          have q3 : (n5 : Int) ≤ (s.size : Int) := by omega
                          have q4 : IntKind.i64.wrap ((n4 : Int) + b) = (n4 : Int) + b := IntWalk.i64_in _ (by omega)
                          have q5 : IntKind.i64.wrap ((n4 : Int) + b - a) = (n5 : Int) := by rw [show (n4 : Int) + b - a = (n5 : Int) by omega]; exact IntWalk.i64_in _ (by omega)
                          have HN5 := Lib.hid hn5
                          clear hn5 hmm
                          obtain ⟨i0, hi, hz0, hz1, hz2⟩ := info_parts infoPieceR
                          have L15 : Hid (PcRow w14.drew w.heap.size 113 (.slice va acc.length vc) acc) := own_keep L14.out ((Below.refl _ _).drew) (Nat.le_refl _)
                          have hB8 : w.heap.size ≤ w14.drew.heap.size := D14.out.size
                          have HU : Hid (∀ u ∈ [Value.string kb, .int .i64 a, .int .i64 b, .int .i64 z, .string (s.extract n4 n5)], u.oneCell' = true) := by
                            intro u hu
                            simp only [List.mem_cons, List.not_mem_nil, or_false] at hu
                            rcases hu with rfl | rfl | rfl | rfl | rfl <;> rfl
                          have V13 : (Value.slice va acc.length vc).ownBlock ≠ some gx := fun e => by have := V12.out gx e; omega
                          have hgl := X14.out.lt
                          go_region_held3 (fun w' => w'.cell? ⟨gx, 0, none⟩ = some (.int .i64 a) ∧ w'.cell? ⟨gx, 1, none⟩ = some (.int .i64 b))
                            (first | go_keep | exact ⟨(World.cell?_of_block (a := ⟨gx, 0, none⟩) (hk9 gx hgl V13)).trans x0, (World.cell?_of_block (a := ⟨gx, 1, none⟩) (hk9 gx hgl V13)).trans x1⟩)
                            ((refine step_append5 (by rfl) _ _ 63 (by rfl) w.heap.size 113 i0 (.agg #[.string ⟨#[]⟩, .int .i64 0, .int .i64 0, .int .i64 0, .string ⟨#[]⟩]) 56 Tryd.underlying63 hi hz0 hz1 hz2 rfl L15.out (by rfl) (.string kb) (.int .i64 a) (.int .i64 b) (.int .i64 z) (.string (s.extract n4 n5)) HU.out (by rfl) (by unfold maxLen; omega) (by omega) hB8 ?_; intro g9 cap9 w15 hg9 hown9 hb9 hk9))
                          have D15 := Lib.hid ((D14.out.drew).trans hb9)
                          have hblk := hk9 gx hgl V13
                          have c0 : w15.cell? ⟨gx, 0, none⟩ = some (.int .i64 a) := (World.cell?_of_block (a := ⟨gx, 0, none⟩) hblk).trans X14.out.c0
                          have c1 : w15.cell? ⟨gx, 1, none⟩ = some (.int .i64 b) := (World.cell?_of_block (a := ⟨gx, 1, none⟩) hblk).trans X14.out.c1
                          have L16 : Hid (PcRow w15 w.heap.size 113 (.slice (some ⟨g9, 0, none⟩) (acc.length + 1) cap9) (acc ++ [⟨k, a, b, z, ((L s).drop n4).take m⟩])) := by
                            have hbd : bs (((L s).drop n4).take m) = s.extract n4 n5 := by
                              rw [HN5.out, extract_bs, List.drop_take, Nat.add_sub_cancel_left]
                            unfold Hid PcRow
                            rw [cellsP_snoc, List.length_append, List.length_singleton]
                            unfold encP
                            simp only []
                            rw [hbd, hkb.out]
                            exact hown9
                          clear hown9 hb9 hk9 hblk x0 x1
                          go_wp2_with fail
                          go_roundw
                          case rel =>
                            have h1 := HMM.out
                            have h2 := HN5.out
                            refine ⟨n1 + (n4 - n1 + m), acc ++ [⟨k, a, b, z, ((L s).drop n4).take m⟩], f', by omega, by rw [List.length_append, List.length_singleton]; omega, by omega, ?_, L16, D15.out, hz⟩
                            congr 1; omega
                          case measure =>
                            have h1 := HMM.out
                            simp [intOf]; omega
            · have hc : 0 < acc.length := List.length_pos_iff.2 hacc
              have hv := hn10 hacc
              have hu := hn10c hacc
              subst hv hu
              clear hn10 hn10c hacc
              go_wp2_with fail
              refine (S10.out _).mono ?_; rintro e w6 ⟨rfl, hb6⟩
              go_wp2_with fail
              refine (C11.out _).mono ?_; rintro e w7 ⟨rfl, hb7⟩
              go_wp2_with fail
              refine (C10.out _).mono ?_; rintro e w8 ⟨rfl, hb8⟩
              go_wp2_with fail
              refine (S11.out _).mono ?_; rintro e w9 ⟨rfl, hb9⟩
              go_wp2_with fail
              have Q9 := Lib.hid (((hb6.trans (hb7.mono hb6.size)).trans (hb8.mono (hb6.trans (hb7.mono hb6.size)).size)).trans (hb9.mono ((hb6.trans (hb7.mono hb6.size)).trans (hb8.mono (hb6.trans (hb7.mono hb6.size)).size)).size))
              clear hb6 hb7 hb8 hb9
              rw [HI.out]
              have D9 := Lib.hid (HBR.out.trans (Q9.out.mono HBR.out.size))
              have L9 : Hid (PcRow w9 w.heap.size 113 (.slice va acc.length vc) acc) := own_keep hL.out Q9.out (Nat.le_refl _)
              clear Q9 HBR hL
              have hc1 := fun wx => rline_any s ⟨#[67, 111, 110, 116, 101, 110, 116, 45, 84, 121, 112, 101]⟩ ⟨#[67, 111, 110, 116, 101, 110, 116, 45, 84, 121, 112, 101, 58, 32]⟩ n1 wx (by omega) rfl (by decide) (by decide) hn1
              rw [L_media] at hc1
              unfold partM at hm
              cases h1 : lineM mediaL ((L s).drop n1) with
              | short =>
                rw [h1] at hc1 hm
                simp only [rlineV] at hm hc1
                have hz : Hid (RES = (([] : List Pc), (s.size : Int), (94 : Int))) := by unfold Hid; have := hres6.out; rw [hm.out] at this; exact this
                have LN1 := Lib.hid hc1
                clear hc1 h1 hm hres6
                refine (LN1.out _).mono ?_; rintro e w10 ⟨rfl, hb10⟩
                go_wp2_with fail
                have d10 := D9.out.trans (hb10.mono D9.out.size)
                go_ret3
                rw [hz.out]
                exact ⟨_, rfl, World.ownsRow_lit _ #[] 0 d10.size (by unfold maxLen; omega) rfl, d10.alloc d10.size _⟩
              | bad =>
                rw [h1] at hc1 hm
                simp only [rlineV] at hm hc1
                have hz : Hid (RES = (([] : List Pc), (n1 : Int), (93 : Int))) := by unfold Hid; have := hres6.out; rw [hm.out] at this; exact this
                have LN1 := Lib.hid hc1
                clear hc1 h1 hm hres6
                refine (LN1.out _).mono ?_; rintro e w10 ⟨rfl, hb10⟩
                go_wp2_with fail
                have d10 := D9.out.trans (hb10.mono D9.out.size)
                go_ret3
                rw [hz.out]
                exact ⟨_, rfl, World.ownsRow_lit _ #[] 0 d10.size (by unfold maxLen; omega) rfl, d10.alloc d10.size _⟩
              | val k =>
                rw [h1] at hc1 hm
                simp only [rlineV] at hm hc1
                obtain ⟨hk1, -⟩ := lineM_val h1
                have hkl := congrArg List.length hk1
                simp only [List.length_append, List.length_drop, L_length, List.length_cons, List.length_nil, show mediaL.length = 14 from rfl] at hkl
                obtain ⟨n2, hn2⟩ : ∃ n2 : Nat, n2 = n1 + (14 + k.length + 2) := ⟨_, rfl⟩
                have hn2s : n2 ≤ s.size := by omega
                have hz2 : ((n1 : Int) + (((⟨#[67, 111, 110, 116, 101, 110, 116, 45, 84, 121, 112, 101, 58, 32]⟩ : ByteArray).size : Nat) : Int) + (k.length : Int) + 2) = (n2 : Int) := by show (n1 : Int) + 14 + (k.length : Int) + 2 = _; omega
                rw [hz2] at hc1
                obtain ⟨kb, hkb⟩ := name_it (bs k)
                rw [hkb.out] at hc1
                rw [List.drop_drop, ← hn2] at hm
                have LN1 := Lib.hid hc1
                have HN2 := Lib.hid hn2
                have hn12 : n1 ≤ n2 := by omega
                clear hc1 hz2 hkl hk1 h1 hn2
                refine (LN1.out _).mono ?_; rintro e w10 ⟨rfl, hb10⟩
                go_wp2_with fail
                have D10 := Lib.hid (D9.out.trans (hb10.mono D9.out.size))
                have L10r : Hid (PcRow w10 w.heap.size 113 (.slice va acc.length vc) acc) := own_keep L9.out hb10 (Nat.le_refl _)
                clear hb10 D9 L9 LN1
                have hc2 := fun wx => rline_any s ⟨#[67, 111, 110, 116, 101, 110, 116, 45, 82, 97, 110, 103, 101]⟩ ⟨#[67, 111, 110, 116, 101, 110, 116, 45, 82, 97, 110, 103, 101, 58, 32]⟩ n2 wx (by omega) rfl (by decide) (by decide) hn2s
                rw [L_ranged] at hc2
                cases h2 : lineM rangedL ((L s).drop n2) with
                | short =>
                  rw [h2] at hc2 hm
                  simp only [rlineV] at hm hc2
                  have hz : Hid (RES = (([] : List Pc), (s.size : Int), (94 : Int))) := by unfold Hid; have := hres6.out; rw [hm.out] at this; exact this
                  have LN2 := Lib.hid hc2
                  clear hc2 h2 hm hres6
                  refine (LN2.out _).mono ?_; rintro e w11 ⟨rfl, hb11⟩
                  go_wp2_with fail
                  have d11 := D10.out.trans (hb11.mono D10.out.size)
                  go_ret3
                  rw [hz.out]
                  exact ⟨_, rfl, World.ownsRow_lit _ #[] 0 d11.size (by unfold maxLen; omega) rfl, d11.alloc d11.size _⟩
                | bad =>
                  rw [h2] at hc2 hm
                  simp only [rlineV] at hm hc2
                  have hz : Hid (RES = (([] : List Pc), (n2 : Int), (93 : Int))) := by unfold Hid; have := hres6.out; rw [hm.out] at this; exact this
                  have LN2 := Lib.hid hc2
                  clear hc2 h2 hm hres6
                  refine (LN2.out _).mono ?_; rintro e w11 ⟨rfl, hb11⟩
                  go_wp2_with fail
                  have d11 := D10.out.trans (hb11.mono D10.out.size)
                  go_ret3
                  rw [hz.out]
                  exact ⟨_, rfl, World.ownsRow_lit _ #[] 0 d11.size (by unfold maxLen; omega) rfl, d11.alloc d11.size _⟩
                | val t =>
                  rw [h2] at hc2 hm
                  simp only [rlineV] at hm hc2
                  obtain ⟨ht1, -⟩ := lineM_val h2
                  have hn2 := HN2.out
                  have htl := congrArg List.length ht1
                  simp only [List.length_append, List.length_drop, L_length, List.length_cons, List.length_nil, show rangedL.length = 15 from rfl] at htl
                  obtain ⟨n3, hn3⟩ : ∃ n3 : Nat, n3 = n2 + (15 + t.length + 2) := ⟨_, rfl⟩
                  have hz3 : ((n2 : Int) + (((⟨#[67, 111, 110, 116, 101, 110, 116, 45, 82, 97, 110, 103, 101, 58, 32]⟩ : ByteArray).size : Nat) : Int) + (t.length : Int) + 2) = (n3 : Int) := by show (n2 : Int) + 15 + (t.length : Int) + 2 = _; omega
                  rw [hz3] at hc2
                  obtain ⟨tb, htb⟩ := name_it (bs t)
                  rw [htb.out] at hc2
                  have hts : tb.size = t.length := by rw [← htb.out, size_bs]
                  have htz : tb.size ≤ s.size := by omega
                  have hn3s : n3 ≤ s.size := by omega
                  have e2 : n1 + (14 + k.length + 2 + (15 + t.length + 2)) = n3 := by omega
                  have e3 : n1 + (14 + k.length + 2 + (15 + t.length + 2) + 2) = n3 + 2 := by omega
                  have hun : 14 + k.length + 2 + (15 + t.length + 2) + 2 = n3 + 2 - n1 := by omega
                  rw [List.drop_drop, List.drop_drop, e2, e3, hun] at hm
                  have hn13 : n1 ≤ n3 := by omega
                  have htold := fun wx => rtold_any tb wx (by omega)
                  rw [show L tb = t by rw [← htb.out, L_bs]] at htold
                  have bd := toldM_bd t
                  obtain ⟨q, hq⟩ := name_it (toldM t)
                  rw [hq.out] at hm htold bd
                  obtain ⟨a, b, z, e⟩ := q
                  unfold toldV at htold
                  simp only [] at htold hm
                  have TOLD := Lib.hid htold
                  have LN2 := Lib.hid hc2
                  obtain ⟨be, ba0, ba1, bb0, bb1, bz0, bz1, bab⟩ := bd
                  simp only [] at be ba0 ba1 bb0 bb1 bz0 bz1 bab
                  clear htl ht1 hts e2 e3 hun hn2 hn3 hz3 htold hq hc2 h2 HN2
                  refine (LN2.out _).mono ?_; rintro e w11 ⟨rfl, hb11⟩
                  go_wp2_with fail
                  have D11 := Lib.hid (D10.out.trans (hb11.mono D10.out.size))
                  have L11r : Hid (PcRow w11 w.heap.size 113 (.slice va acc.length vc) acc) := own_keep L10r.out hb11 (Nat.le_refl _)
                  clear hb11 D10 L10r LN2
                  refine (TOLD.out _).mono ?_; rintro e w12 ⟨rfl, hb12⟩
                  have D12 := Lib.hid (D11.out.trans (hb12.mono D11.out.size))
                  have L12 : Hid (PcRow w12 w.heap.size 113 (.slice va acc.length vc) acc) := own_keep L11r.out hb12 (Nat.le_refl _)
                  clear hb12 D11 L11r TOLD
                  have X12 := Lib.hid (XBox.new w12 a b 34)
                  have DX := Lib.hid (D12.out.alloc D12.out.size (.cells #[.int .i64 a, .int .i64 b] 34))
                  have LX : Hid (PcRow (w12.alloc (.cells #[.int .i64 a, .int .i64 b] 34)) w.heap.size 113 (.slice va acc.length vc) acc) := L12.out.alloc _
                  have V12 : Hid (∀ j, (Value.slice va acc.length vc).ownBlock = some j → j < w12.heap.size) := fun j hj => (World.ownsRow.lt L12.out j hj).2
                  have x0 := X12.out.c0
                  have x1 := X12.out.c1
                  rcases be with rfl | rfl
                  case inr =>
                    have hz : Hid (RES = (([] : List Pc), (n2 : Int), (93 : Int))) := by unfold Hid; have := hres6.out; rw [hm.out, if_pos (Or.inl (by decide))] at this; exact this
                    clear hm hres6
                    go_wp2_with fail
                    have t1 := World.ownsRow_lit (base := w.heap.size) (size := 5) (e := 113) _ #[] 0 DX.out.size (by unfold maxLen; omega) rfl
                    rw [size_alloc1] at t1
                    have t2 := DX.out.alloc DX.out.size (.cells #[] 113)
                    go_ret3
                    rw [hz.out]
                    exact ⟨_, rfl, t1, t2⟩
                  case inl =>
                    by_cases hb0 : b = 0
                    · have ha0 : a = 0 := by
                        by_cases h : a = 0
                        · exact h
                        · have := bab (fun hh => h hh.1)
                          omega
                      subst hb0 ha0
                      have hz : Hid (RES = (([] : List Pc), (n2 : Int), (93 : Int))) := by unfold Hid; have := hres6.out; rw [hm.out, if_pos (Or.inr ⟨rfl, rfl⟩)] at this; exact this
                      clear hm hres6 bab
                      go_wp2_with fail
                      have t1 := World.ownsRow_lit (base := w.heap.size) (size := 5) (e := 113) _ #[] 0 DX.out.size (by unfold maxLen; omega) rfl
                      rw [size_alloc1] at t1
                      have t2 := DX.out.alloc DX.out.size (.cells #[] 113)
                      go_ret3
                      rw [hz.out]
                      exact ⟨_, rfl, t1, t2⟩
                    · have hab := bab (fun hh => hb0 hh.2)
                      have hm2 : Hid (V = if startsB (List.drop n3 (L s)) [13, 10] = true then
                          if ((List.drop (n3 + 2) (L s)).length : Int) < b - a then PartR.stop s.size 94
                          else .go ⟨k, a, b, z, ((L s).drop (n3 + 2)).take (b - a).toNat⟩ (n3 + 2 - n1 + (b - a).toNat)
                        else if cutB (List.drop n3 (L s)) [13, 10] = true then .stop s.size 94 else .stop (n3 : Nat) 93) := by
                        unfold Hid
                        rw [hm.out, if_neg]
                        rintro (h | h)
                        · exact h rfl
                        · exact hb0 h.2
                      clear hm bab
                      have hk1 := fun wx => cutb_any s ⟨#[13, 10]⟩ n3 wx (by omega) (by decide) hn3s
                      have hk2 := fun wx => starts_any s ⟨#[13, 10]⟩ n3 wx (by omega) (by decide) hn3s
                      rw [show L (⟨#[13, 10]⟩ : ByteArray) = [13, 10] from rfl] at hk1 hk2
                      obtain ⟨r3, hr3⟩ := name_it ((L s).drop n3)
                      have hr3l : r3.length = s.size - n3 := by rw [← hr3.out, List.length_drop, L_length]
                      rw [hr3.out] at hk1 hk2 hm2
                      cases hst : startsB r3 [13, 10] with
                      | false =>
                        rw [hst] at hk2 hm2
                        rw [if_neg (by decide)] at hm2
                        have K2 := Lib.hid hk2
                        cases hcu : cutB r3 [13, 10] with
                        | true =>
                          rw [hcu] at hk1 hm2
                          rw [if_pos rfl] at hm2
                          have K1 := Lib.hid hk1
                          have hz : Hid (RES = (([] : List Pc), (s.size : Int), (94 : Int))) := by unfold Hid; have := hres6.out; rw [hm2.out] at this; exact this
                          clear hk1 hk2 hst hcu hm2 hres6 hr3l hr3
                          go_wp2_with fail
                          refine (K1.out _).mono ?_; rintro e w13 ⟨rfl, hb13⟩
                          go_wp2_with fail
                          have d13 := DX.out.trans (hb13.mono DX.out.size)
                          go_ret3
                          rw [hz.out]
                          exact ⟨_, rfl, World.ownsRow_lit _ #[] 0 d13.size (by unfold maxLen; omega) rfl, d13.alloc d13.size _⟩
                        | false =>
                          rw [hcu] at hk1 hm2
                          rw [if_neg (by decide)] at hm2
                          have K1 := Lib.hid hk1
                          have hz : Hid (RES = (([] : List Pc), (n3 : Int), (93 : Int))) := by unfold Hid; have := hres6.out; rw [hm2.out] at this; exact this
                          clear hk1 hk2 hst hcu hm2 hres6 hr3l hr3
                          go_wp2_with fail
                          refine (K1.out _).mono ?_; rintro e w13 ⟨rfl, hb13⟩
                          go_wp2_with fail
                          refine (K2.out _).mono ?_; rintro e w14 ⟨rfl, hb14⟩
                          go_wp2_with fail
                          have d13 := DX.out.trans (hb13.mono DX.out.size)
                          have d14 := d13.trans (hb14.mono d13.size)
                          go_ret3
                          rw [hz.out]
                          exact ⟨_, rfl, World.ownsRow_lit _ #[] 0 d14.size (by unfold maxLen; omega) rfl, d14.alloc d14.size _⟩
                      | true =>
                        rw [starts_not_cut hst] at hk1
                        have hN : n3 + 2 ≤ s.size := by
                          have h := of_decide_eq_true hst
                          have h1 := congrArg List.length h
                          rw [List.length_take] at h1
                          simp only [List.length_cons, List.length_nil] at h1
                          omega
                        rw [hst] at hk2 hm2
                        rw [if_pos rfl] at hm2
                        have K1 := Lib.hid hk1
                        have K2 := Lib.hid hk2
                        clear hk1 hk2 hst hr3l hr3
                        go_wp2_with fail
                        refine (K1.out _).mono ?_; rintro e w13 ⟨rfl, hb13⟩
                        go_wp2_with fail
                        refine (K2.out _).mono ?_; rintro e w14 ⟨rfl, hb14⟩
                        have b134 := hb13.trans (hb14.mono hb13.size)
                        have D14 := Lib.hid (DX.out.trans (b134.mono DX.out.size))
                        have L14 : Hid (PcRow w14 w.heap.size 113 (.slice va acc.length vc) acc) := own_keep LX.out b134 (Nat.le_refl _)
                        have X14 := Lib.hid (X12.out.next b134 X12.out.lt)
                        clear hb13 hb14 b134 DX LX X12 x0 x1 K1 K2
                        obtain ⟨gx, hgx⟩ := name_it w12.heap.size
                        rw [hgx.out] at X14 V12
                        rw [hgx.out]
                        obtain ⟨n4, hn4⟩ : ∃ n4 : Nat, n4 = n3 + 2 := ⟨_, rfl⟩
                        rw [← hn4] at hN hm2
                        have hn14 : n1 ≤ n4 := by omega
                        have hn4i : Hid ((n3 : Int) + 2 = (n4 : Int)) := by unfold Hid; omega
                        have hMl : (List.drop n4 (L s)).length = s.size - n4 := by rw [List.length_drop, L_length]
                        rw [hMl] at hm2
                        have x0 := X14.out.c0
                        have x1 := X14.out.c1
                        have hgw : Hid (w.heap.size ≤ gx) := by rw [← hgx.out]; exact D12.out.size
                        clear hgx D12 L12
                        by_cases hlt : (s.size : Int) - ((n3 : Int) + 2) < b - a
                        · have hz : Hid (RES = (([] : List Pc), (s.size : Int), (94 : Int))) := by
                            unfold Hid; have := hres6.out; rw [hm2.out, if_pos (by omega)] at this; exact this
                          clear hm2 hres6 hMl hn4
                          go_wp2_with fail
                          go_ret3
                          rw [hz.out]
                          exact ⟨_, rfl, World.ownsRow_lit _ #[] 0 D14.out.size (by unfold maxLen; omega) rfl, D14.out.alloc D14.out.size _⟩
                        · obtain ⟨m, hmm⟩ : ∃ m : Nat, (m : Int) = b - a := ⟨(b - a).toNat, by omega⟩
                          have hmt : (b - a).toNat = m := by omega
                          have hz : Hid (RES = pcsM E s.size f' (n1 + (n4 - n1 + m)) ((L s).drop (n1 + (n4 - n1 + m))) (acc ++ [⟨k, a, b, z, ((L s).drop n4).take m⟩])) := by
                            unfold Hid; have := hres6.out; rw [hm2.out, if_neg (by omega), hmt] at this; exact this
                          have HMM := Lib.hid hmm
                          have hmn : n4 + m ≤ s.size := by omega
                          clear hm2 hres6 hMl hn4 hmt
                          go_wp2_with fail
                          rw [hn4i.out]
                          have hmm := HMM.out
                          obtain ⟨n5, hn5⟩ : ∃ n5 : Nat, n5 = n4 + m := ⟨_, rfl⟩
                          have q1 : (0 : Int) ≤ (n4 : Int) := by omega
                          have q2 : (n4 : Int) ≤ (n5 : Int) := by omega
                          have q3 : (n5 : Int) ≤ (s.size : Int) := by omega
                          have q4 : IntKind.i64.wrap ((n4 : Int) + b) = (n4 : Int) + b := IntWalk.i64_in _ (by omega)
                          have q5 : IntKind.i64.wrap ((n4 : Int) + b - a) = (n5 : Int) := by rw [show (n4 : Int) + b - a = (n5 : Int) by omega]; exact IntWalk.i64_in _ (by omega)
                          have HN5 := Lib.hid hn5
                          clear hn5 hmm
                          obtain ⟨i0, hi, hz0, hz1, hz2⟩ := info_parts infoPieceR
                          have L15 : Hid (PcRow w14.drew w.heap.size 113 (.slice va acc.length vc) acc) := own_keep L14.out ((Below.refl _ _).drew) (Nat.le_refl _)
                          have hB8 : w.heap.size ≤ w14.drew.heap.size := D14.out.size
                          have HU : Hid (∀ u ∈ [Value.string kb, .int .i64 a, .int .i64 b, .int .i64 z, .string (s.extract n4 n5)], u.oneCell' = true) := by
                            intro u hu
                            simp only [List.mem_cons, List.not_mem_nil, or_false] at hu
                            rcases hu with rfl | rfl | rfl | rfl | rfl <;> rfl
                          have V13 : (Value.slice va acc.length vc).ownBlock ≠ some gx := fun e => by have := V12.out gx e; omega
                          have hgl := X14.out.lt
                          go_region_held3 (fun w' => w'.cell? ⟨gx, 0, none⟩ = some (.int .i64 a) ∧ w'.cell? ⟨gx, 1, none⟩ = some (.int .i64 b))
                            (first | go_keep | exact ⟨(World.cell?_of_block (a := ⟨gx, 0, none⟩) (hk9 gx hgl V13)).trans x0, (World.cell?_of_block (a := ⟨gx, 1, none⟩) (hk9 gx hgl V13)).trans x1⟩)
                            ((refine step_append5 (by rfl) _ _ 63 (by rfl) w.heap.size 113 i0 (.agg #[.string ⟨#[]⟩, .int .i64 0, .int .i64 0, .int .i64 0, .string ⟨#[]⟩]) 56 Tryd.underlying63 hi hz0 hz1 hz2 rfl L15.out (by rfl) (.string kb) (.int .i64 a) (.int .i64 b) (.int .i64 z) (.string (s.extract n4 n5)) HU.out (by rfl) (by unfold maxLen; omega) (by omega) hB8 ?_; intro g9 cap9 w15 hg9 hown9 hb9 hk9))
                          have D15 := Lib.hid ((D14.out.drew).trans hb9)
                          have hblk := hk9 gx hgl V13
                          have c0 : w15.cell? ⟨gx, 0, none⟩ = some (.int .i64 a) := (World.cell?_of_block (a := ⟨gx, 0, none⟩) hblk).trans X14.out.c0
                          have c1 : w15.cell? ⟨gx, 1, none⟩ = some (.int .i64 b) := (World.cell?_of_block (a := ⟨gx, 1, none⟩) hblk).trans X14.out.c1
                          have L16 : Hid (PcRow w15 w.heap.size 113 (.slice (some ⟨g9, 0, none⟩) (acc.length + 1) cap9) (acc ++ [⟨k, a, b, z, ((L s).drop n4).take m⟩])) := by
                            have hbd : bs (((L s).drop n4).take m) = s.extract n4 n5 := by
                              rw [HN5.out, extract_bs, List.drop_take, Nat.add_sub_cancel_left]
                            unfold Hid PcRow
                            rw [cellsP_snoc, List.length_append, List.length_singleton]
                            unfold encP
                            simp only []
                            rw [hbd, hkb.out]
                            exact hown9
                          clear hown9 hb9 hk9 hblk x0 x1
                          go_wp2_with fail
                          go_roundw
                          case rel =>
                            have h1 := HMM.out
                            have h2 := HN5.out
                            refine ⟨n1 + (n4 - n1 + m), acc ++ [⟨k, a, b, z, ((L s).drop n4).take m⟩], f', by omega, by rw [List.length_append, List.length_singleton]; omega, by omega, ?_, L16, D15.out, hz⟩
                            congr 1; omega
                          case measure =>
                            have h1 := HMM.out
                            simp [intOf]; omega
end Go.Proofs.YtnodboggemggmaaDoor
