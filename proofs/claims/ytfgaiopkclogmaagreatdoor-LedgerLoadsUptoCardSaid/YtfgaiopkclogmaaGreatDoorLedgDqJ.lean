/- LedgerLoads: the walk of the law: a book of lines, or which one is none. -/
import Derived.Test.YtfgaiopkclogmaaGreatDoorLedgDpJ
namespace Go.Proofs.YtfgaiopkclogmaaGreatDoor
open Go Go.RowKit Go.MuLone
set_option maxHeartbeats 8000000

theorem strsT_len (l : List Tx) : (strsT l).length = l.length := by unfold strsT; rw [List.length_map]
theorem strsT_one (l : List Tx) : ∀ u ∈ strsT l, u.oneCell' = true := by
  intro u hu
  obtain ⟨x, _, rfl⟩ := List.mem_map.1 hu
  rfl
/-- where the law stands: its list, its twin of what came in, where and how it went wrong -/
structure QSt (w W2 wr : World) (v2 lv : Value) (l : List Tx) (L : List En) : Prop where
  row : wr.ownsRow W2.heap.size tR 8 lv L.length (rowE L)
  tw : StSl W2 v2 l
  low : Below w.heap.size w W2
  high : Below W2.heap.size W2 wr
theorem QSt.below {w W2 wr : World} {v2 lv : Value} {l : List Tx} {L : List En} (h : QSt w W2 wr v2 lv l L) : Below w.heap.size w wr := h.low.trans (h.high.mono h.low.size)
theorem QSt.twin {w W2 wr : World} {v2 lv : Value} {l : List Tx} {L : List En} (h : QSt w W2 wr v2 lv l L) : StSl wr v2 l := h.tw.next h.high
theorem QSt.next {w W2 wr W' : World} {v2 lv : Value} {l : List Tx} {L : List En} (h : QSt w W2 wr v2 lv l L) (hb : Below wr.heap.size wr W') : QSt w W2 W' v2 lv l L :=
  ⟨row_kept h.row (fun g hg => hb.block g (World.ownsRow.lt h.row g hg).2), h.tw, h.low, h.high.trans (hb.mono h.high.size)⟩
theorem infoREn2 : (Tryz.prog.info? tR).map (fun i => (i.zero, i.size, i.bytes)) = some (some (.agg #[.string ⟨#[]⟩, .int .i64 0, .int .i64 0, .string ⟨#[]⟩, .string ⟨#[]⟩, .int .i64 0, .int .i64 0, .int .i64 0]), 8, 88) := by kernel_rfl

set_option maxRecDepth 100000 in
theorem lawLoads_any (v : Value) (l : List Tx) (w : World) (hZ : EnvZ w) (hv : StSl w v l) (hl : sumT l + l.length ≤ 1048576) :
    Calls Tryz.prog 4 #[v] w fun e w' => e = .returned (.bool true) ∧ Below w.heap.size w w' := by
  have HV := Lib.hid hv
  have HZ := Lib.hid hZ
  have HS := Lib.hid hl
  have HG : Hid (goodN l ≤ 524288) := by have h1 := sumT_good l; have h2 := goodN_le l; unfold Hid; omega
  obtain ⟨i0, hi, hz0, hz1, hz2⟩ := info_parts infoStr
  obtain ⟨j0, ji, jz0, jz1, jz2⟩ := info_parts infoREn2
  have hn1 : l.length ≤ 1073741824 := by omega
  obtain ⟨p, cap, hvp, hc⟩ := hv
  rw [hvp] at HV
  subst hvp
  have HC := Lib.hid hc
  clear hZ hc hl
  have hp1 : ∀ W, Sem.run Tryz.prog (pure (#[] : Array Value)) W = .ok #[] W := fun W => rfl
  have hp2 : ∀ a W, Sem.run Tryz.prog (storeCells a []) W = .ok () W := fun a W => rfl
  have hgg : ((goodN l : Int) == (goodN l : Int)) = true := by simp
  rcases p with _ | ad
  · have hl0 : l = [] := by
      rcases l with _ | ⟨x, r⟩
      · rfl
      · obtain ⟨b, off, h, _⟩ := HC.out 0 (by simp)
        cases h
    subst hl0
    go_enter Tryz.func4, Tryz.ntmps4
    go_wp2_with fail
    have V2 : Hid ((w.alloc (.cells #[] 9)).ownsRow w.heap.size 9 1 (.slice (some ⟨w.heap.size, 0, none⟩) 0 0) 0 (strsT [])) := World.ownsRow_lit (w := w) (base := w.heap.size) (e := 9) (size := 1) #[] 0 (Nat.le_refl _) (by decide) rfl
    have D2 : Hid (Below w.heap.size w (w.alloc (.cells #[] 9))) := (Below.refl _ _).alloc (Nat.le_refl _) _
    have Z2 : Hid ((w.alloc (.cells #[] 9)).heap.size = w.heap.size + 1) := Array.size_push ..
    obtain ⟨w2, hw2⟩ := name_it (w.alloc (.cells #[] 9))
    rw [hw2.out] at V2 D2 Z2
    rw [← Z2.out]
    rw [hw2.out]
    obtain ⟨v2, hv2⟩ := name_it (Value.slice (some ⟨w.heap.size, 0, none⟩) 0 0)
    have Q0 : Hid (QSt w w2 (w2.alloc (.cells #[] tR)) (.slice (some ⟨w.heap.size, 0, none⟩) 0 0) (.slice (some ⟨w2.heap.size, 0, none⟩) 0 0) [] []) :=
      ⟨World.ownsRow_lit w2 (base := w2.heap.size) (e := tR) (size := 8) #[] 0 (Nat.le_refl _) (by decide) rfl, StSl.of V2.out, D2.out, (Below.refl _ _).alloc (Nat.le_refl _) _⟩
    clear hw2 V2 D2 Z2 hv2
    have HOKL : Hid (∀ e ∈ entsL [], okE e) := fun e he => by cases he
    go_loopw [4, 5, 6, 7] (fun lv av fv iv wr => lv = .slice (some ⟨w2.heap.size, 0, none⟩) 0 0 ∧ av = .int .i64 0 ∧ fv = .int .i64 0 ∧ iv = .int .i64 0 ∧ Hid (QSt w w2 wr (.slice (some ⟨w.heap.size, 0, none⟩) 0 0) (.slice (some ⟨w2.heap.size, 0, none⟩) 0 0) [] [])) (fun _ _ _ _ _ => 0)
    case atStart => exact ⟨rfl, rfl, rfl, rfl, Q0⟩
    case round =>
      obtain ⟨rfl, rfl, rfl, rfl, hQ⟩ := hrel
      have l0 : (goodN []) = 0 := rfl
      have hlq : ([] : List Tx).length = 0 := rfl
      go_wp2_with fail
      all_goals (try (exfalso; omega))
      refine (load_any _ [] _ (HZ.out.next hQ.out.below).l.env (HV.out.next hQ.out.below) HS.out).mono ?_; rintro x w5 ⟨hld, b5⟩
      rcases hld with ⟨_, b, vb, rfl, hLS⟩ | ⟨hlt', _⟩
      rotate_left
      · exfalso; omega
      have Q5 := Lib.hid (hQ.out.next b5)
      have L5 := Lib.hid hLS
      clear b5 hLS hQ
      go_wp2_with fail
      refine (awake_any w5 (HZ.out.next Q5.out.below).l).mono ?_; rintro x w6 ⟨rfl, b6⟩
      have Q6 := Lib.hid (Q5.out.next b6)
      have L6 := Lib.hid (L5.out.next b6)
      clear b6 Q5 L5
      go_wp2_with fail
      refine (lsame2_any _ _ [] w6 (HV.out.next Q6.out.below) Q6.out.twin hn1).mono ?_; rintro x w7 ⟨rfl, b7⟩
      have Q7 := Lib.hid (Q6.out.next b7)
      have L7 := Lib.hid (L6.out.next b7)
      clear b7 Q6 L6
      go_wp2_with fail
      refine (holds_any b vb (entsL []) _ w2.heap.size w7 (HZ.out.next Q7.out.below) L7.out.bok Q7.out.row HOKL.out).mono ?_; rintro x w8 ⟨rfl, b8⟩
      have D8 := Lib.hid (Q7.out.below.trans (b8.mono Q7.out.below.size))
      clear b8
      go_wp2_with fail
      go_ret
      exact ⟨rfl, D8.out⟩
  · have HNE : Hid (∀ j u, (strsT l)[j]? = some u → (w.alloc (.cells #[] 9)).cell? (ad.add j) = some u) := by
      intro j u hj
      have hjl : j < l.length := by have h := (List.getElem?_eq_some_iff.1 hj).1; rw [strsT_len] at h; exact h
      obtain ⟨b, off, h, hlt, hcell⟩ := HC.out j hjl
      injection h with h
      subst h
      rw [Addr.add_lit]
      rw [strsT_get l j hjl] at hj
      injection hj with hj
      subst hj
      exact (((Below.refl w.heap.size w).alloc (Nat.le_refl _) (.cells #[] 9)).cell (p := ⟨b, off + j, none⟩) hlt).trans hcell
    have OW := Lib.hid (World.ownsRow_lit (w := w) (base := w.heap.size) (e := 9) (size := 1) #[] 0 (Nat.le_refl _) (by decide) rfl)
    have b0 := Lib.hid ((Below.refl w.heap.size w).alloc (Nat.le_refl _) (.cells #[] 9))
    have HLEN : Hid ((strsT l).length = l.length * 1) := by unfold Hid; rw [strsT_len]; omega
    have HONE := Lib.hid (strsT_one l)
    clear hp1 hp2
    go_enter Tryz.func4, Tryz.ntmps4
    go_wp2_with (at_builtin; refine wpList_append_own _ rfl _ _ 43 rfl w.heap.size 9 i0 (.string ⟨#[]⟩) 1 16 Tryz.underlying43 hi hz0 hz1 hz2 rfl (by decide) _ 0 [] rfl OW.out ad l.length cap (strsT l) rfl HLEN.out HNE.out HONE.out ?_ ?_ ?_ ?_)
    · have := hn1; unfold maxLen; omega
    · have := hn1; omega
    intro v2 w2 hown2 hgrow hnil
    try rw [Nat.zero_add, List.nil_append] at hown2
    have V2 := Lib.hid (StSl.of hown2)
    have D2 := Lib.hid (b0.out.trans (own_belowL OW.out hgrow (by show w.heap.size ≤ (w.heap.push _).size; rw [Array.size_push]; omega)))
    obtain ⟨p2, cap2, hv2⟩ := row_slice hown2
    subst hv2
    clear hown2 hgrow hnil HNE OW b0 HLEN HONE
    go_wp2_with fail
    have Q0 : Hid (QSt w w2 (w2.alloc (.cells #[] tR)) (.slice p2 l.length cap2) (.slice (some ⟨w2.heap.size, 0, none⟩) 0 0) l []) :=
      ⟨World.ownsRow_lit w2 (base := w2.heap.size) (e := tR) (size := 8) #[] 0 (Nat.le_refl _) (by decide) rfl, V2.out, D2.out, (Below.refl _ _).alloc (Nat.le_refl _) _⟩
    clear V2 D2
    go_loopw [4, 5, 6, 7] (fun lv av fv iv wr => ∃ (k gl cl : Nat) (L : List En), k ≤ l.length ∧ iv = .int .i64 k ∧ lv = .slice (some ⟨gl, 0, none⟩) L.length cl ∧ L.length = k ∧ Hid (QSt w w2 wr (.slice p2 l.length cap2) lv l L) ∧
        ((k ≤ goodN l ∧ av = .int .i64 0 ∧ fv = .int .i64 0 ∧ L = entsL (l.take k)) ∨ (goodN l < l.length ∧ k = goodN l + 1 ∧ av = .int .i64 (goodN l : Nat) ∧ fv = .int .i64 280))) (fun _ _ _ i _ => l.length - (intOf i).toNat)
    case atStart => exact ⟨0, _, _, [], Nat.zero_le _, rfl, rfl, rfl, Q0, Or.inl ⟨Nat.zero_le _, rfl, rfl, rfl⟩⟩
    clear Q0
    case round =>
      obtain ⟨k, gl, cl, L, hk, rfl, rfl, hLk, hQ, hst⟩ := hrel
      obtain ⟨wq, hwq⟩ : ∃ wq, wq = wr := ⟨wr, rfl⟩
      subst hwq
      have q0 : (0 : Int) ≤ (k : Int) := by omega
      have HLK := Lib.hid hLk
      rcases hst with ⟨hkg, rfl, rfl, hLe⟩ | ⟨hgl, hkg, rfl, rfl⟩
      · by_cases hlt : k < l.length
        · have q1 : (k : Int) < (l.length : Int) := by omega
          have q2 : (k : Int) < 1000000 := by have := HG.out; omega
          obtain ⟨b1, o1, hp, hlt1, hcell⟩ : ∃ b off, p2 = some ⟨b, off, none⟩ ∧ b < wq.heap.size ∧ wq.cell? ⟨b, off + k, none⟩ = some (.string (bs l[k])) := by
            obtain ⟨p', c', h, hc'⟩ := hQ.out.twin
            injection h with h _ _
            subst h
            exact hc' k hlt
          subst hp
          have RP := Lib.hid (rparse_any (bs l[k]) wq (by rw [size_bs]; have h1 := len_sumT hlt; have h2 := HS.out; omega))
          rw [L_bs] at RP
          have ht := ents_take l k hlt
          cases hp : parsesB l[k] with
          | true =>
            rw [parV_yes hp] at RP
            have hkg' : k + 1 ≤ goodN l := by
              rcases Nat.lt_or_ge k (goodN l) with h | h
              · exact h
              · have he : k = goodN l := by omega
                subst he
                rw [goodN_no hlt] at hp; cases hp
            rw [← hLe] at ht
            have HT := Lib.hid ht
            have HKG := Lib.hid hkg'
            obtain ⟨S, hS⟩ := name_it l[k]
            rw [hS.out] at RP hcell HT
            obtain ⟨e, he⟩ := name_it (parsedE S)
            rw [he.out] at RP HT
            clear hS he hp ht hkg' hLe hLk
            unfold encE at RP
            go_wp2_with fail
            all_goals (try (exfalso; omega))
            refine RP.out.mono ?_; rintro x w3 ⟨rfl, b3⟩
            have Q3 := Lib.hid (hQ.out.next b3)
            clear b3 RP hcell hQ
            have Q4 := Lib.hid (Q3.out.next ((Below.refl _ _).alloc (Nat.le_refl _) (.cells #[.string (bs e.name), .int .i64 e.conn, .int .i64 e.numb, .string (bs e.meth), .string (bs e.tgt), .int .i64 e.stat, .int .i64 e.byts, .int .i64 e.tick] tR)))
            go_wp2_with (at_builtin; refine append8 rfl _ _ 26 rfl w2.heap.size tR j0 (.agg #[.string ⟨#[]⟩, .int .i64 0, .int .i64 0, .string ⟨#[]⟩, .string ⟨#[]⟩, .int .i64 0, .int .i64 0, .int .i64 0]) 88 Tryz.underlying26 ji jz0 jz1 jz2 rfl Q4.out.row rfl #[.string (bs e.name), .int .i64 e.conn, .int .i64 e.numb, .string (bs e.meth), .string (bs e.tgt), .int .i64 e.stat, .int .i64 e.byts, .int .i64 e.tick] rfl (by intro u hu; simp only [List.mem_cons, List.not_mem_nil, or_false] at hu; rcases hu with rfl | rfl | rfl | rfl | rfl | rfl | rfl | rfl <;> rfl) rfl (by first | rfl | (simp; done)) ?_ ?_ ?_ ?_)
            · have := HLK.out; have := HG.out; unfold maxLen; omega
            · have := HLK.out; have := HG.out; omega
            · exact Q4.out.high.size
            intro g6 cap6 w6 hown6 hb6 hat6 hk6
            have Q6 : Hid (QSt w w2 w6 (.slice (some ⟨b1, o1, none⟩) l.length cap2) (.slice (some ⟨g6, 0, none⟩) (L ++ [e]).length cap6) l (L ++ [e])) := by
              refine ⟨?_, Q4.out.tw, Q4.out.low, Q4.out.high.trans hb6⟩
              rw [List.length_append, List.length_singleton, rowE_snoc]; exact hown6
            have HL6 : Hid ((L ++ [e]).length = k + 1) := by unfold Hid; rw [List.length_append, List.length_singleton, HLK.out]
            clear hown6 hb6 hat6 hk6 Q4 Q3
            go_wp2_with fail
            go_roundw
            case rel => exact ⟨k + 1, g6, cap6, L ++ [e], by omega, by go_num, by rw [HL6.out]; first | rfl | (rw [HLK.out]), HL6.out, by first | exact Q6 | (rw [HLK.out]; rw [HL6.out] at Q6; exact Q6), Or.inl ⟨HKG.out, rfl, rfl, HT.out.symm⟩⟩
            case measure => simp [intOf] <;> omega
          | false =>
            rw [parV_no hp] at RP
            have hkg' : k = goodN l := by
              rcases Nat.lt_or_ge k (goodN l) with h | h
              · rw [goodN_yes h hlt] at hp; cases hp
              · omega
            have HKG := Lib.hid hkg'
            obtain ⟨S, hS⟩ := name_it l[k]
            rw [hS.out] at RP hcell
            clear hS hp ht hkg' hLe hLk
            obtain ⟨pe, hpe⟩ := name_it ((parseEnd S).1)
            rw [hpe.out] at RP
            clear hpe
            unfold noS at RP
            go_wp2_with fail
            all_goals (try (exfalso; omega))
            refine RP.out.mono ?_; rintro x w3 ⟨rfl, b3⟩
            have Q3 := Lib.hid (hQ.out.next b3)
            clear b3 RP hcell hQ
            have Q4 := Lib.hid (Q3.out.next ((Below.refl _ _).alloc (Nat.le_refl _) (.cells #[.string ⟨#[]⟩, .int .i64 0, .int .i64 0, .string ⟨#[]⟩, .string ⟨#[]⟩, .int .i64 0, .int .i64 0, .int .i64 0] tR)))
            go_wp2_with (at_builtin; refine append8 rfl _ _ 26 rfl w2.heap.size tR j0 (.agg #[.string ⟨#[]⟩, .int .i64 0, .int .i64 0, .string ⟨#[]⟩, .string ⟨#[]⟩, .int .i64 0, .int .i64 0, .int .i64 0]) 88 Tryz.underlying26 ji jz0 jz1 jz2 rfl Q4.out.row rfl #[.string ⟨#[]⟩, .int .i64 0, .int .i64 0, .string ⟨#[]⟩, .string ⟨#[]⟩, .int .i64 0, .int .i64 0, .int .i64 0] rfl (by intro u hu; simp only [List.mem_cons, List.not_mem_nil, or_false] at hu; rcases hu with rfl | rfl | rfl | rfl | rfl | rfl | rfl | rfl <;> rfl) rfl (by first | rfl | (simp; done)) ?_ ?_ ?_ ?_)
            · have := HLK.out; have := HG.out; unfold maxLen; omega
            · have := HLK.out; have := HG.out; omega
            · exact Q4.out.high.size
            intro g6 cap6 w6 hown6 hb6 hat6 hk6
            have Q6 : Hid (QSt w w2 w6 (.slice (some ⟨b1, o1, none⟩) l.length cap2) (.slice (some ⟨g6, 0, none⟩) (L ++ [noE]).length cap6) l (L ++ [noE])) := by
              refine ⟨?_, Q4.out.tw, Q4.out.low, Q4.out.high.trans hb6⟩
              rw [List.length_append, List.length_singleton, rowE_snoc]; exact hown6
            have HL6 : Hid ((L ++ [noE]).length = k + 1) := by unfold Hid; rw [List.length_append, List.length_singleton, HLK.out]
            clear hown6 hb6 hat6 hk6 Q4 Q3
            go_wp2_with fail
            go_roundw
            case rel => exact ⟨k + 1, g6, cap6, L ++ [noE], by omega, by go_num, by rw [HL6.out]; first | rfl | (rw [HLK.out]), HL6.out, by first | exact Q6 | (rw [HLK.out]; rw [HL6.out] at Q6; exact Q6), Or.inr ⟨by have := HKG.out; omega, by have := HKG.out; omega, by first | rfl | (rw [← HKG.out]), rfl⟩⟩
            case measure => simp [intOf] <;> omega
        · have hkl : k = l.length := by omega
          subst hkl
          rw [List.take_length] at hLe
          subst hLe
          clear hLk HLK
          have HOKL : Hid (∀ e ∈ entsL l, okE e) := by have h := ents_ok (l := l) (k := l.length) hkg; rw [List.take_length] at h; exact h
          have hgq := HG.out
          have hd1 : decide ((1000000 : Int) < (l.length : Int)) = false := decide_eq_false (by omega)
          have hd2 : decide (1000000 < l.length) = false := decide_eq_false (by omega)
          have hd3 : decide ((l.length : Int) < (l.length : Int)) = false := decide_eq_false (by omega)
          go_wp2_with fail
          all_goals (try (exfalso; omega))
          refine (load_any _ l _ (HZ.out.next hQ.out.below).l.env (HV.out.next hQ.out.below) HS.out).mono ?_; rintro x w5 ⟨hld, b5⟩
          rcases hld with ⟨_, b, vb, rfl, hLS⟩ | ⟨hlt', _⟩
          rotate_left
          · exfalso; omega
          have Q5 := Lib.hid (hQ.out.next b5)
          have L5 := Lib.hid hLS
          clear b5 hLS hQ
          go_wp2_with fail
          refine (awake_any w5 (HZ.out.next Q5.out.below).l).mono ?_; rintro x w6 ⟨rfl, b6⟩
          have Q6 := Lib.hid (Q5.out.next b6)
          have L6 := Lib.hid (L5.out.next b6)
          clear b6 Q5 L5
          go_wp2_with fail
          refine (lsame2_any _ _ l w6 (HV.out.next Q6.out.below) Q6.out.twin hn1).mono ?_; rintro x w7 ⟨rfl, b7⟩
          have Q7 := Lib.hid (Q6.out.next b7)
          have L7 := Lib.hid (L6.out.next b7)
          clear b7 Q6 L6
          go_wp2_with fail
          refine (holds_any b vb (entsL l) _ w2.heap.size w7 (HZ.out.next Q7.out.below) L7.out.bok Q7.out.row HOKL.out).mono ?_; rintro x w8 ⟨rfl, b8⟩
          have D8 := Lib.hid (Q7.out.below.trans (b8.mono Q7.out.below.size))
          clear b8
          go_wp2_with fail
          go_ret
          exact ⟨rfl, D8.out⟩
      · by_cases hlt : k < l.length
        · have q1 : (k : Int) < (l.length : Int) := by omega
          have hgq := HG.out
          go_wp2_with fail
          all_goals (try (exfalso; omega))
          refine (load_any _ l _ (HZ.out.next hQ.out.below).l.env (HV.out.next hQ.out.below) HS.out).mono ?_; rintro x w5 ⟨hld, b5⟩
          rcases hld with ⟨hgl, _⟩ | ⟨_, rfl⟩
          · exfalso; omega
          have Q5 := Lib.hid (hQ.out.next b5)
          clear b5 hQ
          go_wp2_with fail
          refine (awake_any w5 (HZ.out.next Q5.out.below).l).mono ?_; rintro x w6 ⟨rfl, b6⟩
          have Q6 := Lib.hid (Q5.out.next b6)
          clear b6 Q5
          go_wp2_with fail
          refine (lsame2_any _ _ l w6 (HV.out.next Q6.out.below) Q6.out.twin hn1).mono ?_; rintro x w7 ⟨rfl, b7⟩
          have Q7 := Lib.hid (Q6.out.next b7)
          clear b7 Q6
          go_wp2_with fail
          go_ret
          exact ⟨rfl, Q7.out.below⟩
        · have q1 : decide ((k : Int) < (l.length : Int)) = false := decide_eq_false (by omega)
          have hgq := HG.out
          go_wp2_with fail
          all_goals (try (exfalso; omega))
          refine (load_any _ l _ (HZ.out.next hQ.out.below).l.env (HV.out.next hQ.out.below) HS.out).mono ?_; rintro x w5 ⟨hld, b5⟩
          rcases hld with ⟨hgl, _⟩ | ⟨_, rfl⟩
          · exfalso; omega
          have Q5 := Lib.hid (hQ.out.next b5)
          clear b5 hQ
          go_wp2_with fail
          refine (awake_any w5 (HZ.out.next Q5.out.below).l).mono ?_; rintro x w6 ⟨rfl, b6⟩
          have Q6 := Lib.hid (Q5.out.next b6)
          clear b6 Q5
          go_wp2_with fail
          refine (lsame2_any _ _ l w6 (HV.out.next Q6.out.below) Q6.out.twin hn1).mono ?_; rintro x w7 ⟨rfl, b7⟩
          have Q7 := Lib.hid (Q6.out.next b7)
          clear b7 Q6
          go_wp2_with fail
          go_ret
          exact ⟨rfl, Q7.out.below⟩
end Go.Proofs.YtfgaiopkclogmaaGreatDoor
