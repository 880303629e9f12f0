/- Contract of the reference's octet: the elements of a list. -/
import Derived.Test.YtnodboggemggmaaGreatDoorOctetH
namespace Go.Proofs.YtnodboggemggmaaGreatDoor
open Go Go.RowKit
set_option maxHeartbeats 2000000

set_option maxRecDepth 100000 in
theorem rlist_any (s : ByteArray) (w : World) (hs : s.size ≤ 1099511627776) :
    Calls Tryz.prog 17 #[.string s] w (ListRes (listOf (L s)) w) := by
  obtain ⟨i0, hi, hz0, hz1, hz2⟩ := info_parts infoString
  have s1 : (0 : Int) ≤ 1 := by omega
  have s2 : (0 : Int) ≤ 2 := by omega
  have s3 : (0 : Int) ≤ 3 := by omega
  obtain ⟨R, hR⟩ := name_it (listOf (L s))
  rw [hR.out]
  obtain ⟨R0, hR0⟩ := name_it (splitQ ((L s).length + 1) (L s) [])
  have hRR : Hid (R = R0.map keep) := by unfold Hid; rw [← hR.out, ← hR0.out]; rfl
  have hL := L_length s
  obtain ⟨B, hB⟩ : ∃ B, Hid (B = w.heap.size) := ⟨_, rfl⟩
  have hBw : B ≤ w.heap.size := by rw [hB.out]; exact Nat.le_refl _
  have hend : ∀ {e : Ending} {w' : World} {v : Value}, e = .returned (.tuple #[v, .int .i64 (listE R)]) → Texts w' B v (listL R) → Below B w w' → ListRes R w e w' := by
    intro e w' v h1 h2 h3
    rw [hB.out] at h2 h3
    exact ⟨v, h1, h2, h3⟩
  have HE : Hid (∀ {e : Ending} {w' : World} {v : Value}, e = .returned (.tuple #[v, .int .i64 (listE R)]) → Texts w' B v (listL R) → Below B w w' → ListRes R w e w') := hend
  have hemp : Hid (∀ wx : World, B ≤ wx.heap.size → Texts (wx.alloc (.cells #[] 9)) B (.slice (some ⟨wx.heap.size, 0, none⟩) 0 0) []) := fun wx h => own_empty wx B 9 h
  clear hend
  go_enter Tryz.func17, Tryz.ntmps17
  go_wp2_with fail
  go_loopw [4, 5, 6] (fun out fr at' wr => ∃ (f k : Nat) (ps : List (List UInt8)) (acc : List (List UInt8)), f ≤ k ∧ k ≤ s.size + 1 ∧ fr = .int .i64 f ∧ at' = .int .i64 k ∧ Hid (acc = keep ps) ∧ Hid (Texts wr B out acc) ∧ acc.length ≤ k ∧
      Hid (if k ≤ s.size then (splitQ (s.size - k + 1) ((L s).drop k) (((L s).take k).drop f)).map (ps ++ ·) = R0 else some ps = R0) ∧ Below B w wr) (fun _ _ k _ => s.size + 1 - (intOf k).toNat)
  case atStart => exact ⟨0, 0, [], [], by omega, by omega, rfl, rfl, rfl, hemp.out w hBw, by simp, by unfold Hid; rw [if_pos (by omega), ← hR0.out, hL]; simp, (Below.refl _ _).alloc hBw _⟩
  case round =>
    obtain ⟨f, k, ps, acc, hfk, hk, rfl, rfl, hacc, htx, hpl, hr, hbr⟩ := hrel
    have hbs := Nat.le_trans hBw hbr.size
    by_cases hle : k ≤ s.size
    · have hr' : Hid ((splitQ (s.size - k + 1) ((L s).drop k) (((L s).take k).drop f)).map (ps ++ ·) = R0) := by have := hr.out; rw [if_pos hle] at this; exact this
      clear hr
      by_cases hcut : k = s.size ∨ (k < s.size ∧ ((L s).getD k 0).toNat = 44)
      · -- a piece ends here
        have hr2 : Hid (if k + 1 ≤ s.size then (splitQ (s.size - (k + 1) + 1) ((L s).drop (k + 1)) (((L s).take (k + 1)).drop (k + 1))).map ((ps ++ [((L s).take k).drop f]) ++ ·) = R0 else some (ps ++ [((L s).take k).drop f]) = R0) := by
          have := hr'.out
          rcases hcut with rfl | ⟨hlt, h44⟩
          · rw [if_neg (by omega)]
            rw [L_drop_all, splitQ_nil] at this
            exact this
          · rw [if_pos (by omega)]
            have hc : (L s).getD k 0 = s[k] := by
              show ((L s)[k]?).getD 0 = _
              rw [List.getElem?_eq_getElem (by rw [hL]; exact hlt)]; rfl
            rw [hc] at h44
            rw [L_drop hlt, splitQ_comma (by omega)] at this
            have e0 : ((L s).take (k + 1)).drop (k + 1) = [] := List.drop_of_length_le (by rw [List.length_take]; omega)
            rw [e0, show s.size - (k + 1) + 1 = s.size - k by omega, ← this, Option.map_map]
            congr 1
            funext x; simp
        obtain ⟨p, hp⟩ := name_it (((L s).take k).drop f)
        rw [hp.out] at hr2
        have hx : Hid (s.extract f k = bs p) := by unfold Hid; rw [extract_bs, hp.out]
        have hpl2 : Hid (p.length ≤ s.size) := by unfold Hid; rw [← hp.out, List.length_drop, List.length_take, hL]; omega
        rcases hcut with hks | ⟨hlt, h44⟩
        · have hkb : ((k : Int) == (s.size : Int)) = true := by simp; omega
          have hki : k ≤ s.size := by omega
          clear hle hr'
          have HK := Lib.hid hks; clear hks
          go_wp2_with fail
          rw [hx.out]
          refine (rtrim_any (bs p) _ (by have := hpl2.out; rw [size_bs]; unfold maxLen; omega)).mono ?_; rintro e w3 ⟨rfl, rfl⟩
          rw [L_bs]
          rcases ht : trim p with _ | ⟨c0, r0⟩
          · have hk4 : Hid (acc = keep (ps ++ [p])) := by unfold Hid; rw [keep_snoc_no _ _ ht]; exact hacc.out
            have h1 := bs_nil
            have h2 := bs_nil'
            clear ht
            go_wp2_with fail
            go_roundw
            case rel => exact ⟨k + 1, k + 1, ps ++ [p], acc, by omega, by omega, by go_num, by go_num, hk4, htx, by omega, hr2, hbr⟩
            case measure => simp [intOf]; omega
          · have hk4 : Hid (acc ++ [c0 :: r0] = keep (ps ++ [p])) := by unfold Hid; rw [keep_snoc_yes _ _ (by rw [ht]; simp), ht, hacc.out]
            have h1 := bs_ne (c := c0) (l := r0)
            have h2 := bs_ne' (c := c0) (l := r0)
            clear ht
            go_wp2_with (at_builtin; refine append1 rfl _ _ 45 rfl B 9 i0 (.string ⟨#[]⟩) 16 Tryz.underlying45 hi hz0 hz1 hz2 rfl htx.out rfl (.string (bs (c0 :: r0))) rfl rfl ?_ ?_ ?_ ?_)
            · unfold maxLen; omega
            · omega
            · omega
            intro g4 cap4 w4 hg4 hown4 hb4
            have htx4 : Hid (Texts w4 B (.slice (some ⟨g4, 0, none⟩) (acc.length + 1) cap4) (acc ++ [c0 :: r0])) := texts_snoc hown4
            clear hown4
            have hbk4 := hbr.trans hb4
            go_wp2_with fail
            go_roundw
            case rel => exact ⟨k + 1, k + 1, ps ++ [p], acc ++ [c0 :: r0], by omega, by omega, by go_num, by go_num, hk4, htx4, by rw [List.length_append, List.length_singleton]; omega, hr2, hbk4⟩
            case measure => simp [intOf]; omega
        · obtain ⟨c, hc⟩ := name_it s[k]
          have hck := hc.out
          have h44' : (c.toNat : Int) = 44 := by
            have : (L s).getD k 0 = s[k] := by
              show ((L s)[k]?).getD 0 = _
              rw [List.getElem?_eq_getElem (by rw [hL]; exact hlt)]; rfl
            rw [this, hck] at h44; omega
          have hcb : ((c.toNat : Int) == 44) = true := by simp [h44']
          have hkb : ((k : Int) == (s.size : Int)) = false := by simp; omega
          clear hle hr' h44
          have HK := Lib.hid h44'; clear h44'
          go_wp2_with fail
          rw [hx.out]
          refine (rtrim_any (bs p) _ (by have := hpl2.out; rw [size_bs]; unfold maxLen; omega)).mono ?_; rintro e w3 ⟨rfl, rfl⟩
          rw [L_bs]
          rcases ht : trim p with _ | ⟨c0, r0⟩
          · have hk4 : Hid (acc = keep (ps ++ [p])) := by unfold Hid; rw [keep_snoc_no _ _ ht]; exact hacc.out
            have h1 := bs_nil
            have h2 := bs_nil'
            clear ht
            go_wp2_with fail
            go_roundw
            case rel => exact ⟨k + 1, k + 1, ps ++ [p], acc, by omega, by omega, by go_num, by go_num, hk4, htx, by omega, hr2, hbr⟩
            case measure => simp [intOf]; omega
          · have hk4 : Hid (acc ++ [c0 :: r0] = keep (ps ++ [p])) := by unfold Hid; rw [keep_snoc_yes _ _ (by rw [ht]; simp), ht, hacc.out]
            have h1 := bs_ne (c := c0) (l := r0)
            have h2 := bs_ne' (c := c0) (l := r0)
            clear ht
            go_wp2_with (at_builtin; refine append1 rfl _ _ 45 rfl B 9 i0 (.string ⟨#[]⟩) 16 Tryz.underlying45 hi hz0 hz1 hz2 rfl htx.out rfl (.string (bs (c0 :: r0))) rfl rfl ?_ ?_ ?_ ?_)
            · unfold maxLen; omega
            · omega
            · omega
            intro g4 cap4 w4 hg4 hown4 hb4
            have htx4 : Hid (Texts w4 B (.slice (some ⟨g4, 0, none⟩) (acc.length + 1) cap4) (acc ++ [c0 :: r0])) := texts_snoc hown4
            clear hown4
            have hbk4 := hbr.trans hb4
            go_wp2_with fail
            go_roundw
            case rel => exact ⟨k + 1, k + 1, ps ++ [p], acc ++ [c0 :: r0], by omega, by omega, by go_num, by go_num, hk4, htx4, by rw [List.length_append, List.length_singleton]; omega, hr2, hbk4⟩
            case measure => simp [intOf]; omega
      · have hlt : k < s.size := by
          rcases Nat.lt_or_ge k s.size with h | h
          · exact h
          · exact absurd (Or.inl (by omega)) hcut
        obtain ⟨c, hc⟩ := name_it s[k]
        have hck := hc.out
        have hget : (L s).getD k 0 = c := by
          show ((L s)[k]?).getD 0 = _
          rw [List.getElem?_eq_getElem (by rw [hL]; exact hlt), ← hck]; rfl
        have h44 : ¬ (c.toNat : Int) = 44 := fun h => hcut (Or.inr ⟨hlt, by rw [hget]; omega⟩)
        clear hcut hget
        have hdr : Hid ((L s).drop k = c :: (L s).drop (k + 1)) := by rw [← hc.out]; exact L_drop hlt
        have htk : Hid ((L s).take (k + 1) = (L s).take k ++ [c]) := by rw [← hc.out]; exact L_take hlt
        have hkb : ((k : Int) == (s.size : Int)) = false := by simp; omega
        have hcb : ((c.toNat : Int) == 44) = false := by simp [h44]
        have H44 := Lib.hid h44; clear h44
        by_cases hq : (c.toNat : Int) = 34
        · have hqb : ((c.toNat : Int) == 34) = true := by simp [hq]
          have hx : Hid (s.extract k s.size = bs ((L s).drop k)) := extract_tail s k
          have HQ := Lib.hid hq; clear hq
          go_wp2_with fail
          rw [hx.out]
          have hsz : Hid ((bs ((L s).drop k)).size ≤ 1099511627776) := by unfold Hid; rw [size_bs, List.length_drop]; omega
          refine (runquote_any _ _ hsz.out).mono ?_; rintro e w2 ⟨rfl, hb2⟩
          rw [L_bs]
          cases hu : unq ((L s).drop k) with
          | none =>
            have hno : Hid (R = none) := by
              have := hr'.out
              rw [hdr.out] at this hu
              rw [splitQ_q HQ.out, hu] at this
              rw [hRR.out, ← this]; rfl
            have HU := Lib.hid hu; clear hu
            have hbw := hbr.trans (hb2.mono hbs)
            have hem := Lib.hid (hemp.out w2 (Nat.le_trans hBw hbw.size))
            simp only [unqE, unqN, unqS]
            go_wp2_with fail
            go_ret2
            refine HE.out ?_ ?_ (hbw.alloc (Nat.le_trans hBw hbw.size) _) (v := .slice (some ⟨w2.heap.size, 0, none⟩) 0 0)
            · rw [hno.out]; rfl
            · rw [hno.out]; exact hem.out
          | some q =>
            obtain ⟨a, n⟩ := q
            have hbd := unq_bd hu
            rw [List.length_drop, hL] at hbd
            have hr2 : Hid (if k + n ≤ s.size then (splitQ (s.size - (k + n) + 1) ((L s).drop (k + n)) (((L s).take (k + n)).drop f)).map (ps ++ ·) = R0 else some ps = R0) := by
              have := hr'.out
              rw [hdr.out] at this hu
              rw [splitQ_q HQ.out, hu] at this
              simp only [] at this
              rw [← hdr.out, List.drop_drop, splitQ_fuel (s.size - k) _ _ (s.size - (k + n) + 1) (by rw [List.length_drop, hL]; omega) (by rw [List.length_drop, hL]; omega)] at this
              have e1 : ((L s).take k).drop f ++ ((L s).drop k).take n = ((L s).take (k + n)).drop f := by
                rw [List.take_add, List.drop_append_of_le_length (by rw [List.length_take, hL]; omega)]
              rw [e1] at this
              unfold Hid
              rw [if_pos (by omega)]
              exact this
            have HU := Lib.hid hu; clear hu
            have hbw := hbr.trans (hb2.mono hbs)
            have htx2 : Hid (Texts w2 B _ acc) := own_keep htx.out hb2 (Nat.le_refl _)
            have hn1 := hbd.1
            have hn2 := hbd.2
            simp only [unqE, unqN, unqS]
            go_wp2_with fail
            go_roundw
            case rel => exact ⟨f, k + n, ps, acc, by omega, by omega, rfl, by go_num, hacc, htx2, by omega, hr2, hbw⟩
            case measure => simp [intOf]; omega
        · have hqb : ((c.toNat : Int) == 34) = false := by simp [hq]
          have hr2 : Hid (if k + 1 ≤ s.size then (splitQ (s.size - (k + 1) + 1) ((L s).drop (k + 1)) (((L s).take (k + 1)).drop f)).map (ps ++ ·) = R0 else some ps = R0) := by
            have := hr'.out
            rw [hdr.out, splitQ_else hq H44.out] at this
            unfold Hid
            rw [if_pos (by omega), htk.out, List.drop_append_of_le_length (by rw [List.length_take]; omega), show s.size - (k + 1) + 1 = s.size - k by omega]
            exact this
          have HQ := Lib.hid hq; clear hq
          go_wp2_with fail
          go_roundw
          case rel => exact ⟨f, k + 1, ps, acc, by omega, by omega, rfl, by go_num, hacc, htx, by omega, hr2, hbr⟩
          case measure => simp [intOf]; omega
    · obtain rfl : k = s.size + 1 := by omega
      have hfin : Hid (∀ v, Texts wr B v acc → Texts wr B v (listL R)) := by
        intro v this
        have h := hr.out
        rw [if_neg hle] at h
        rw [hRR.out, ← h]
        show Texts wr B v (keep ps)
        rw [← hacc.out]; exact this
      have hE0 : Hid (listE R = 0) := by
        have h := hr.out
        rw [if_neg hle] at h
        rw [hRR.out, ← h]; rfl
      go_wp2_with fail
      go_ret2
      exact HE.out (by rw [hE0.out]; rfl) (hfin.out _ htx.out) hbr
end Go.Proofs.YtnodboggemggmaaGreatDoor
